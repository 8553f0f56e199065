/- What functions of the program compute, and that they do. -/
import Derived.Test.YtiaippkjgmccoaaKQ
set_option linter.unusedVariables false
set_option linter.unusedSimpArgs false
set_option maxRecDepth 100000
set_option maxHeartbeats 4000000
namespace Go.Proofs.Ytiaippkjgmccoaa
open Go Go.Cl
noncomputable section
noncomputable def c77 : Code := Try.f77.code
def H77_0 (p0 : (List ((Int × Bool) × (Int × Bool)))) (p1 : (List ((Int × Bool) × (Int × Bool)))) (o4 : Int) : List Blk := [cl 22 [sv 1 p0.length ANY, sv 2 p1.length ANY], ab 86 e86 p0, ab 86 e86 p1, .dead, .cells 86 (List.flatMap e86 ((List.take (Int.toNat 0) (List.replicate (Int.toNat (w64 (o4 - 0))) (((0, false), (0, false)) : ((Int × Bool) × (Int × Bool))))) ++ p0))]
def H77_1 (p0 : (List ((Int × Bool) × (Int × Bool)))) (p1 : (List ((Int × Bool) × (Int × Bool)))) (o4 : Int) : List Blk := [cl 22 [sv 1 p0.length ANY, sv 2 p1.length ANY], ab 86 e86 p0, ab 86 e86 p1, .cells 86 (List.flatMap e86 (List.replicate (Int.toNat (w64 (o4 - 0))) (((0, false), (0, false)) : ((Int × Bool) × (Int × Bool)))))]
def H77_2 (p0 : (List ((Int × Bool) × (Int × Bool)))) (p1 : (List ((Int × Bool) × (Int × Bool)))) : List Blk := [cl 22 [sv 1 p0.length ANY, sv 2 p1.length ANY], ab 86 e86 p0, ab 86 e86 p1, ab 86 e86 p0]
def H77_3 (p0 : (List ((Int × Bool) × (Int × Bool)))) (p1 : (List ((Int × Bool) × (Int × Bool)))) : List Blk := [cl 22 [sv 1 p0.length ANY, sv 2 p1.length ANY], ab 86 e86 p0, ab 86 e86 p1]
def S77_4 (p0 : (List ((Int × Bool) × (Int × Bool)))) : CAct := (st 36 [(0, sv 0 2 2), (3, iv (w64 (0 + (p0.length : Int)))), (9, sv 0 2 2), (10, iv 2), (11, iv 0)])
def S77_5 (o4 : Int) : CAct := (st 36 [(0, sv 0 2 2), (3, iv o4), (9, sv 0 2 2), (10, iv 2), (11, iv 1)])
noncomputable def c77f84 : Code := Try.f84.code
def F77 (p0 : (List ((Int × Bool) × (Int × Bool)))) (p1 : (List ((Int × Bool) × (Int × Bool)))) : Option (List ((Int × Bool) × (Int × Bool))) :=
 (
  if decide ((w64 (0 + (p0.length : Int))) < 0) then
   none
  else
   some ()
 : Option Unit) >>= fun m2 =>
 some (w64 ((w64 (0 + (p0.length : Int))) + (p1.length : Int))) >>= fun o4 =>
 (
  if decide (o4 < 0) then
   none
  else
   some ()
 : Option Unit) >>= fun m7 =>
 (
  if decide (o4 < 0) then
   none
  else
   some ()
 : Option Unit) >>= fun m10 =>
 if decide ((w64 (o4 - 0)) > 0) then
  if (0 : Int) < w64 (o4 - 0) ∧ w64 (o4 - 0) ≤ 1000000000 then
   if (0 : Int) ≤ 0 ∧ 0 ≤ (List.length (List.replicate (Int.toNat (w64 (o4 - 0))) (((0, false), (0, false)) : ((Int × Bool) × (Int × Bool)))) : Int) then
    if List.length (List.take (Int.toNat 0) (List.replicate (Int.toNat (w64 (o4 - 0))) (((0, false), (0, false)) : ((Int × Bool) × (Int × Bool))))) ≤ 1000000000 then
     if List.length p0 ≤ 1000000000 then
      if List.length ((List.take (Int.toNat 0) (List.replicate (Int.toNat (w64 (o4 - 0))) (((0, false), (0, false)) : ((Int × Bool) × (Int × Bool))))) ++ p0) ≤ 1000000000 then
       if List.length p1 ≤ 1000000000 then
        some (((List.take (Int.toNat 0) (List.replicate (Int.toNat (w64 (o4 - 0))) (((0, false), (0, false)) : ((Int × Bool) × (Int × Bool))))) ++ p0) ++ p1)
       else none
      else none
     else none
    else none
   else none
  else none
 else
  if List.length p0 ≤ 1000000000 then
   if List.length p1 ≤ 1000000000 then
    some (p0 ++ p1)
   else none
  else none
def V77 (b : Nat) (r : (List ((Int × Bool) × (Int × Bool)))) : Value := .slice (some ⟨b + 0, 0, none⟩) r.length ANY
def N77 (b : Nat) (r : (List ((Int × Bool) × (Int × Bool)))) : List Blk := [ab 86 e86 r]
theorem B77 (p0 : (List ((Int × Bool) × (Int × Bool)))) (p1 : (List ((Int × Bool) × (Int × Bool)))) (r : (List ((Int × Bool) × (Int × Bool)))) (hF : F77 p0 p1 = some r) : TS Try.prog 3 3 c77 (st 36 [(0, sv 0 2 2)]) (H77_3 p0 p1) (NX Try.prog 3 3 [] (FinP Try.prog Try.f77 3 (V77 3 r) (N77 3 r))) := by
 unfold F77 at hF
 refine TS.sq (TS.rg (TI.ra 1 [0] (st 36 [(0, sv 0 2 2)]) (TI.dn (NX.sq (TS.sq (TS.rg (TI.ra 1 [0, 3] (st 36 [(0, sv 0 2 2), (3, iv 0)]) (TI.dn ?_))))))))
 refine NX.sq (TS.sq (TS.sq (TS.rg (TI.ra 3 [0, 3, 9, 10, 11] (st 36 [(0, sv 0 2 2), (3, iv 0), (9, sv 0 2 2), (10, iv 2), (11, iv 0)]) (TI.dn (NX.sq (TS.bk 0 (TS.lp ?_))))))))
 refine TL.round (TS.sq (TS.rg (TI.ra 1 [0, 3, 9, 10, 11, 12] (st 36 [(0, sv 0 2 2), (3, iv 0), (9, sv 0 2 2), (10, iv 2), (11, iv 0), (12, .bool true)]) (TI.dn (NX.sq (TS.sq (TS.cdT (.tmp 12) (TS.sk ?_))))))))
 refine NX.sq (TS.sq (TS.bk 1 (TS.sq (TS.rg (TI.ra 3 [0, 3, 5, 9, 10, 11] (st 36 [(0, sv 0 2 2), (3, iv 0), (5, sv 1 p0.length ANY), (9, sv 0 2 2), (10, iv 2), (11, iv 0)]) (TI.dn (NX.sq (TS.sq ?_))))))))
 refine TS.rg (TI.ra 5 [0, 3, 9, 10, 11] (S77_4 p0) (TI.dn (NX.sq (TS.sq (TS.rg (TI.ra 2 [0, 3, 9, 10, 11, 20] (st 36 [(0, sv 0 2 2), (3, iv (w64 (0 + (p0.length : Int)))), (9, sv 0 2 2), (10, iv 2), (11, iv 0), (20, .bool (decide ((w64 (0 + (p0.length : Int))) < 0)))]) (TI.dn (NX.sq ?_))))))))
 have hX := of_do hF
 clear hF
 obtain ⟨m2, hm3, hF⟩ := hX
 have hK : NX Try.prog 3 3 [.bk 1, .sq c77.s2.s2.s1.s2.bd.bd.s2.s2.s2] (Rd Try.prog 3 3 c77.s2.s2.s1.s2.bd.bd (NX Try.prog 3 3 [.bk 0, .sq c77.s2.s2.s2] (FinP Try.prog Try.f77 3 (V77 3 r) (N77 3 r)))) .normal (S77_4 p0) (H77_3 p0 p1) := by
  refine NX.bk (NX.sq (TS.rg (TI.ra 2 [0, 3, 9, 10, 11] (st 36 [(0, sv 0 2 2), (3, iv (w64 (0 + (p0.length : Int)))), (9, sv 0 2 2), (10, iv 2), (11, iv 1)]) (TI.dn ?_))))
  refine Rd.again Wk.refl (TL.round (TS.sq (TS.rg (TI.ra 1 [0, 3, 9, 10, 11, 12] (st 36 [(0, sv 0 2 2), (3, iv (w64 (0 + (p0.length : Int)))), (9, sv 0 2 2), (10, iv 2), (11, iv 1), (12, .bool true)]) (TI.dn (NX.sq (TS.sq (TS.cdT (.tmp 12) (TS.sk ?_)))))))))
  refine NX.sq (TS.sq (TS.bk 1 (TS.sq (TS.rg (TI.ra 3 [0, 3, 5, 9, 10, 11] (st 36 [(0, sv 0 2 2), (3, iv (w64 (0 + (p0.length : Int)))), (5, sv 2 p1.length ANY), (9, sv 0 2 2), (10, iv 2), (11, iv 1)]) (TI.dn (NX.sq (TS.sq ?_))))))))
  have hX := of_do hF
  clear hF
  obtain ⟨o4, h5, hF⟩ := hX
  replace h5 := Option.some.inj h5
  refine TS.rg (TI.ra 3 [0, 9, 10, 11, 15, 17] (st 36 [(0, sv 0 2 2), (9, sv 0 2 2), (10, iv 2), (11, iv 1), (15, iv (w64 (0 + (p0.length : Int)))), (17, iv (p1.length : Int))]) (TI.o { val := iv o4 } (q_convI (e := w64 ((w64 (0 + (p0.length : Int))) + (p1.length : Int))) (y := o4) (by kernel_rfl) h5) [0, 9, 10, 11, 18] [0, 1, 2] (st 36 [(0, sv 0 2 2), (9, sv 0 2 2), (10, iv 2), (11, iv 1), (18, iv o4)]) (H77_3 p0 p1) (TI.ra 1 [0, 3, 9, 10, 11] (S77_5 o4) (TI.dn (NX.sq (TS.sq (TS.rg (TI.ra 2 [0, 3, 9, 10, 11, 20] (st 36 [(0, sv 0 2 2), (3, iv o4), (9, sv 0 2 2), (10, iv 2), (11, iv 1), (20, .bool (decide (o4 < 0)))]) ?_))))))))
  refine TI.dn (NX.sq ?_)
  have hX := of_do hF
  clear hF
  obtain ⟨m7, hm8, hF⟩ := hX
  have hK : NX Try.prog 3 3 [.bk 1, .sq c77.s2.s2.s1.s2.bd.bd.s2.s2.s2] (Rd Try.prog 3 3 c77.s2.s2.s1.s2.bd.bd (NX Try.prog 3 3 [.bk 0, .sq c77.s2.s2.s2] (FinP Try.prog Try.f77 3 (V77 3 r) (N77 3 r)))) .normal (S77_5 o4) (H77_3 p0 p1) := by
   refine NX.bk (NX.sq (TS.rg (TI.ra 2 [0, 3, 9, 10, 11] (st 36 [(0, sv 0 2 2), (3, iv o4), (9, sv 0 2 2), (10, iv 2), (11, iv 2)]) (TI.dn ?_))))
   refine Rd.again Wk.refl (TL.round (TS.sq (TS.rg (TI.ra 1 [0, 3, 9, 10, 11, 12] (st 36 [(0, sv 0 2 2), (3, iv o4), (9, sv 0 2 2), (10, iv 2), (11, iv 2), (12, .bool false)]) (TI.dn (NX.sq (TS.sq (TS.cdF (.tmp 12) (TS.ex 0 ?_)))))))))
   refine NX.sqX ?_
   refine Rd.out (by simp) (NX.bkX (NX.sq (TS.sq (TS.rg (TI.ra 1 [0, 23] (st 36 [(0, sv 0 2 2), (23, iv o4)]) (TI.inline (g := 84) (args := [.slice none 0 0, iv o4]) (fn := Try.f84) (c := c77f84) (n := 3) (by kernel_rfl) (by kernel_rfl) (by kernel_rfl) (by kernel_rfl) (by kernel_rfl) [0, 1] (a2 := (st 27 [(0, .slice none 0 0), (1, iv o4)])) (by kernel_rfl) (TS.sq (TS.rg ?_))))))))
   refine TI.ra 1 [0, 1] (st 27 [(0, .slice none 0 0), (1, iv o4)]) (TI.dn (NX.sq (TS.sq (TS.sq (TS.rg (TI.ra 2 [0, 1, 6] (st 27 [(0, .slice none 0 0), (1, iv o4), (6, .bool (decide (o4 < 0)))]) (TI.dn (NX.sq ?_))))))))
   have hX := of_do hF
   clear hF
   obtain ⟨m10, hm11, hF⟩ := hX
   have hK : NX Try.prog 3 3 [.sq c77f84.s2.s2] (InlP Try.prog 3 3 Try.f84 (fun v2 h2 => TI Try.prog 3 3 c77.s2.s2.s2.s1.rops 2 (putAt c77.s2.s2.s2.s1.rops 1 (st 36 [(0, sv 0 2 2), (23, iv o4)]) v2) h2 (NX Try.prog 3 3 [.sq c77.s2.s2.s2.s2] (FinP Try.prog Try.f77 3 (V77 3 r) (N77 3 r)) .normal))) .normal (st 27 [(0, .slice none 0 0), (1, iv o4)]) (H77_3 p0 p1) := by
    refine NX.sq (TS.sq (TS.sq (TS.rg (TI.ra 8 [0, 1] (st 27 [(0, .slice none 0 0), (1, iv (w64 (o4 - 0)))]) (TI.dn (NX.sq (TS.sq (TS.rg ?_))))))))
    refine TI.ra 2 [0, 1, 16] (st 27 [(0, .slice none 0 0), (1, iv (w64 (o4 - 0))), (16, .bool (decide ((w64 (o4 - 0)) > 0)))]) (TI.dn (NX.sq ?_))
    refine TS.cd (.tmp 16) (decide ((w64 (o4 - 0)) > 0)) (fun hc16 => ?_) (fun hc16 => ?_)
    · replace hF := of_pos hF hc16
      have hX := of_guard hF
      clear hF
      obtain ⟨hg17, hF⟩ := hX
      have hX := of_guard hF
      clear hF
      obtain ⟨hg18, hF⟩ := hX
      refine TS.rg (TI.ra 5 [0, 20, 21] (st 27 [(0, .slice none 0 0), (20, .slice none 0 0), (21, iv (w64 (o4 - 0)))]) (TI.o { val := sv 3 (List.length (List.replicate (Int.toNat (w64 (o4 - 0))) (((0, false), (0, false)) : ((Int × Bool) × (Int × Bool))))) UNK, new := [.cells 86 (List.flatMap e86 (List.replicate (Int.toNat (w64 (o4 - 0))) (((0, false), (0, false)) : ((Int × Bool) × (Int × Bool)))))] } (q_appZ (P := Try.prog) (base := 3) (hp := (H77_3 p0 p1)) (n := 3) (s := 4) (enc := e86) (ts := #[22, 3]) (e := 86) (bytes := 32) (z := ag [iv 0, .bool false, iv 0, .bool false]) (v := w64 (o4 - 0)) (((0, false), (0, false)) : ((Int × Bool) × (Int × Bool))) (by kernel_rfl) (by kernel_rfl) (by kernel_rfl) (by kernel_rfl) (by kernel_rfl) (by kernel_rfl) (by kernel_rfl) rfl hg17.1 hg17.2 (by decide)) [0, 22] [0, 1, 2, 3] (st 27 [(0, .slice none 0 0), (22, sv 3 (List.length (List.replicate (Int.toNat (w64 (o4 - 0))) (((0, false), (0, false)) : ((Int × Bool) × (Int × Bool))))) UNK)]) (H77_1 p0 p1 o4) (TI.ra 2 [22, 24] (st 27 [(22, sv 3 (List.length (List.replicate (Int.toNat (w64 (o4 - 0))) (((0, false), (0, false)) : ((Int × Bool) × (Int × Bool))))) UNK), (24, iv 0)]) (TI.o { val := sv 3 (List.length (List.take (Int.toNat 0) (List.replicate (Int.toNat (w64 (o4 - 0))) (((0, false), (0, false)) : ((Int × Bool) × (Int × Bool)))))) UNK } (q_slUhi (P := Try.prog) (t := 22) (e := 86) (s := 4) (b := 3) (off := 0) (ys := List.replicate (Int.toNat (w64 (o4 - 0))) (((0, false), (0, false)) : ((Int × Bool) × (Int × Bool)))) (k := .i64) (v := 0) (by kernel_rfl) (by kernel_rfl) (by kernel_rfl) hg18) [25] [0, 1, 2, 3] (st 27 [(25, sv 3 (List.length (List.take (Int.toNat 0) (List.replicate (Int.toNat (w64 (o4 - 0))) (((0, false), (0, false)) : ((Int × Bool) × (Int × Bool)))))) UNK)]) (H77_1 p0 p1 o4) (TI.ra 1 [0] (st 27 [(0, sv 3 (List.length (List.take (Int.toNat 0) (List.replicate (Int.toNat (w64 (o4 - 0))) (((0, false), (0, false)) : ((Int × Bool) × (Int × Bool)))))) UNK)]) (TI.dn (NX.sq (TS.sq ?_))))))))
      refine TS.rg (TI.ra 2 [4] (st 27 [(4, sv 3 (List.length (List.take (Int.toNat 0) (List.replicate (Int.toNat (w64 (o4 - 0))) (((0, false), (0, false)) : ((Int × Bool) × (Int × Bool)))))) UNK)]) (TI.dn (NX.sq (TS.rt ?_))))
      refine ⟨.inr rfl, rfl, sv 3 (List.length (List.take (Int.toNat 0) (List.replicate (Int.toNat (w64 (o4 - 0))) (((0, false), (0, false)) : ((Int × Bool) × (Int × Bool)))))) UNK, sv 3 (List.length (List.take (Int.toNat 0) (List.replicate (Int.toNat (w64 (o4 - 0))) (((0, false), (0, false)) : ((Int × Bool) × (Int × Bool)))))) UNK, (H77_1 p0 p1 o4), by kernel_rfl, WkV.refl, (TI.rn 0 [0, 24] [0, 1, 2, 3] (st 36 [(0, sv 0 2 2), (24, sv 3 (List.length (List.take (Int.toNat 0) (List.replicate (Int.toNat (w64 (o4 - 0))) (((0, false), (0, false)) : ((Int × Bool) × (Int × Bool)))))) UNK)]) (H77_1 p0 p1 o4) (TI.ra 1 [0, 6] (st 36 [(0, sv 0 2 2), (6, sv 3 (List.length (List.take (Int.toNat 0) (List.replicate (Int.toNat (w64 (o4 - 0))) (((0, false), (0, false)) : ((Int × Bool) × (Int × Bool)))))) UNK)]) (TI.dn (NX.sq (TS.sq (TS.sq (TS.rg (TI.ra 3 [6, 25, 26, 27] (st 36 [(6, sv 3 (List.length (List.take (Int.toNat 0) (List.replicate (Int.toNat (w64 (o4 - 0))) (((0, false), (0, false)) : ((Int × Bool) × (Int × Bool)))))) UNK), (25, sv 0 2 2), (26, iv 2), (27, iv 0)]) ?_))))))))⟩
      refine TI.dn (NX.sq (TS.bk 2 (TS.lp (TL.round (TS.sq (TS.rg (TI.ra 1 [6, 25, 26, 27, 28] (st 36 [(6, sv 3 (List.length (List.take (Int.toNat 0) (List.replicate (Int.toNat (w64 (o4 - 0))) (((0, false), (0, false)) : ((Int × Bool) × (Int × Bool)))))) UNK), (25, sv 0 2 2), (26, iv 2), (27, iv 0), (28, .bool true)]) (TI.dn ?_))))))))
      refine NX.sq (TS.sq (TS.cdT (.tmp 28) (TS.sk (NX.sq (TS.sq (TS.bk 3 (TS.sq (TS.rg ?_))))))))
      refine TI.ra 3 [6, 8, 25, 26, 27] (st 36 [(6, sv 3 (List.length (List.take (Int.toNat 0) (List.replicate (Int.toNat (w64 (o4 - 0))) (((0, false), (0, false)) : ((Int × Bool) × (Int × Bool)))))) UNK), (8, sv 1 p0.length ANY), (25, sv 0 2 2), (26, iv 2), (27, iv 0)]) (TI.dn (NX.sq ?_))
      have hX := of_guard hF
      clear hF
      obtain ⟨hg19, hF⟩ := hX
      have hX := of_guard hF
      clear hF
      obtain ⟨hg20, hF⟩ := hX
      refine TS.rg (TI.ra 2 [25, 26, 27, 31, 32] (st 36 [(25, sv 0 2 2), (26, iv 2), (27, iv 0), (31, sv 3 (List.length (List.take (Int.toNat 0) (List.replicate (Int.toNat (w64 (o4 - 0))) (((0, false), (0, false)) : ((Int × Bool) × (Int × Bool)))))) UNK), (32, sv 1 p0.length ANY)]) ?_)
      refine TI.o { val := ownV 4 (List.length ((List.take (Int.toNat 0) (List.replicate (Int.toNat (w64 (o4 - 0))) (((0, false), (0, false)) : ((Int × Bool) × (Int × Bool))))) ++ p0)), new := [.cells 86 (List.flatMap e86 ((List.take (Int.toNat 0) (List.replicate (Int.toNat (w64 (o4 - 0))) (((0, false), (0, false)) : ((Int × Bool) × (Int × Bool))))) ++ p0))], upd := some (3, .dead) } (q_appP (P := Try.prog) (base := 3) (hp := (H77_1 p0 p1 o4)) (n := 4) (s := 4) (enc := e86) (ts := #[22, 22]) (e := 86) (bytes := 32) (z := ag [iv 0, .bool false, iv 0, .bool false]) (y := sv 1 p0.length ANY) (ys := p0) (b := 3) (L := List.replicate (Int.toNat (w64 (o4 - 0))) (((0, false), (0, false)) : ((Int × Bool) × (Int × Bool)))) (l := List.take (Int.toNat 0) (List.replicate (Int.toNat (w64 (o4 - 0))) (((0, false), (0, false)) : ((Int × Bool) × (Int × Bool))))) (win_take win_all _) (by kernel_rfl) (by kernel_rfl) (by decide) (by kernel_rfl) (by kernel_rfl) (by kernel_rfl) (by kernel_rfl) (by kernel_rfl) (arg_win (e := 86) (off := 0) (L := p0) (ys := p0) win_all (holds_acc (hp := (H77_1 p0 p1 o4)) (b := 1) (T := 86) (enc := e86) (L := p0) (by kernel_rfl)) (fun _ => rfl) (by kernel_rfl)) (cells_ok (fun _ => rfl)) (fun _ => rfl) (by first | omega | (simp only [List.length_append, List.length_cons, List.length_nil]; omega))) [25, 26, 27, 33] [0, 1, 2, 4] (st 36 [(25, sv 0 2 2), (26, iv 2), (27, iv 0), (33, ownV 4 (List.length ((List.take (Int.toNat 0) (List.replicate (Int.toNat (w64 (o4 - 0))) (((0, false), (0, false)) : ((Int × Bool) × (Int × Bool))))) ++ p0)))]) (H77_0 p0 p1 o4) (TI.ra 1 [6, 25, 26, 27] (st 36 [(6, ownV 4 (List.length ((List.take (Int.toNat 0) (List.replicate (Int.toNat (w64 (o4 - 0))) (((0, false), (0, false)) : ((Int × Bool) × (Int × Bool))))) ++ p0))), (25, sv 0 2 2), (26, iv 2), (27, iv 0)]) (TI.dn (NX.bk (NX.sq (TS.rg (TI.ra 2 [6, 25, 26, 27] (st 36 [(6, ownV 4 (List.length ((List.take (Int.toNat 0) (List.replicate (Int.toNat (w64 (o4 - 0))) (((0, false), (0, false)) : ((Int × Bool) × (Int × Bool))))) ++ p0))), (25, sv 0 2 2), (26, iv 2), (27, iv 1)]) (TI.dn ?_)))))))
      refine Rd.again Wk.refl (TL.round (TS.sq (TS.rg (TI.ra 1 [6, 25, 26, 27, 28] (st 36 [(6, ownV 4 (List.length ((List.take (Int.toNat 0) (List.replicate (Int.toNat (w64 (o4 - 0))) (((0, false), (0, false)) : ((Int × Bool) × (Int × Bool))))) ++ p0))), (25, sv 0 2 2), (26, iv 2), (27, iv 1), (28, .bool true)]) (TI.dn (NX.sq (TS.sq (TS.cdT (.tmp 28) (TS.sk ?_)))))))))
      refine NX.sq (TS.sq (TS.bk 3 (TS.sq (TS.rg (TI.ra 3 [6, 8, 25, 26, 27] (st 36 [(6, ownV 4 (List.length ((List.take (Int.toNat 0) (List.replicate (Int.toNat (w64 (o4 - 0))) (((0, false), (0, false)) : ((Int × Bool) × (Int × Bool))))) ++ p0))), (8, sv 2 p1.length ANY), (25, sv 0 2 2), (26, iv 2), (27, iv 1)]) (TI.dn (NX.sq ?_)))))))
      have hX := of_guard hF
      clear hF
      obtain ⟨hg21, hF⟩ := hX
      have hX := of_guard hF
      clear hF
      obtain ⟨hg22, hF⟩ := hX
      refine TS.rg (TI.ra 2 [25, 26, 27, 31, 32] (st 36 [(25, sv 0 2 2), (26, iv 2), (27, iv 1), (31, ownV 4 (List.length ((List.take (Int.toNat 0) (List.replicate (Int.toNat (w64 (o4 - 0))) (((0, false), (0, false)) : ((Int × Bool) × (Int × Bool))))) ++ p0))), (32, sv 2 p1.length ANY)]) ?_)
      refine TI.o { val := ownV 5 (List.length (((List.take (Int.toNat 0) (List.replicate (Int.toNat (w64 (o4 - 0))) (((0, false), (0, false)) : ((Int × Bool) × (Int × Bool))))) ++ p0) ++ p1)), new := [.cells 86 (List.flatMap e86 (((List.take (Int.toNat 0) (List.replicate (Int.toNat (w64 (o4 - 0))) (((0, false), (0, false)) : ((Int × Bool) × (Int × Bool))))) ++ p0) ++ p1))], upd := some (4, .dead) } (q_appO (P := Try.prog) (base := 3) (hp := (H77_0 p0 p1 o4)) (n := 5) (s := 4) (enc := e86) (ts := #[22, 22]) (e := 86) (bytes := 32) (z := ag [iv 0, .bool false, iv 0, .bool false]) (y := sv 2 p1.length ANY) (ys := p1) (b := 4) (l := (List.take (Int.toNat 0) (List.replicate (Int.toNat (w64 (o4 - 0))) (((0, false), (0, false)) : ((Int × Bool) × (Int × Bool))))) ++ p0) (by kernel_rfl) (by kernel_rfl) (by decide) (by kernel_rfl) (by kernel_rfl) (by kernel_rfl) (by kernel_rfl) (by kernel_rfl) (arg_win (e := 86) (off := 0) (L := p1) (ys := p1) win_all (holds_acc (hp := (H77_0 p0 p1 o4)) (b := 2) (T := 86) (enc := e86) (L := p1) (by kernel_rfl)) (fun _ => rfl) (by kernel_rfl)) (cells_ok (fun _ => rfl)) (fun _ => rfl) (by first | omega | (simp only [List.length_append, List.length_cons, List.length_nil]; omega))) [25, 26, 27, 33] [0, 1, 2, 5] (st 36 [(25, sv 0 2 2), (26, iv 2), (27, iv 1), (33, ownV 5 (List.length (((List.take (Int.toNat 0) (List.replicate (Int.toNat (w64 (o4 - 0))) (((0, false), (0, false)) : ((Int × Bool) × (Int × Bool))))) ++ p0) ++ p1)))]) [cl 22 [sv 1 p0.length ANY, sv 2 p1.length ANY], ab 86 e86 p0, ab 86 e86 p1, .dead, .dead, .cells 86 (List.flatMap e86 (((List.take (Int.toNat 0) (List.replicate (Int.toNat (w64 (o4 - 0))) (((0, false), (0, false)) : ((Int × Bool) × (Int × Bool))))) ++ p0) ++ p1))] (TI.ra 1 [6, 25, 26, 27] (st 36 [(6, ownV 5 (List.length (((List.take (Int.toNat 0) (List.replicate (Int.toNat (w64 (o4 - 0))) (((0, false), (0, false)) : ((Int × Bool) × (Int × Bool))))) ++ p0) ++ p1))), (25, sv 0 2 2), (26, iv 2), (27, iv 1)]) (TI.dn (NX.bk (NX.sq (TS.rg (TI.ra 2 [6, 25, 26, 27] (st 36 [(6, ownV 5 (List.length (((List.take (Int.toNat 0) (List.replicate (Int.toNat (w64 (o4 - 0))) (((0, false), (0, false)) : ((Int × Bool) × (Int × Bool))))) ++ p0) ++ p1))), (25, sv 0 2 2), (26, iv 2), (27, iv 2)]) (TI.dn ?_)))))))
      refine Rd.again Wk.refl (TL.round (TS.sq (TS.rg (TI.ra 1 [6, 25, 26, 27, 28] (st 36 [(6, ownV 5 (List.length (((List.take (Int.toNat 0) (List.replicate (Int.toNat (w64 (o4 - 0))) (((0, false), (0, false)) : ((Int × Bool) × (Int × Bool))))) ++ p0) ++ p1))), (25, sv 0 2 2), (26, iv 2), (27, iv 2), (28, .bool false)]) (TI.dn (NX.sq (TS.sq (TS.cdF (.tmp 28) (TS.ex 2 ?_)))))))))
      refine NX.sqX ?_
      refine Rd.out (by simp) (NX.bkX (NX.sq (TS.sq (TS.rg (TI.ra 2 [2] (st 36 [(2, ownV 5 (List.length (((List.take (Int.toNat 0) (List.replicate (Int.toNat (w64 (o4 - 0))) (((0, false), (0, false)) : ((Int × Bool) × (Int × Bool))))) ++ p0) ++ p1)))]) (TI.dn (NX.sq (TS.rt ?_))))))))
      have hF := Option.some.inj hF
      subst hF
      exact ⟨.inr rfl, rfl, ownV 5 (List.length (((List.take (Int.toNat 0) (List.replicate (Int.toNat (w64 (o4 - 0))) (((0, false), (0, false)) : ((Int × Bool) × (Int × Bool))))) ++ p0) ++ p1)), by kernel_rfl, WkV.made (L := 3) (f := [5]) (by decide) (by decide) rfl (.cons (At.accU (by kernel_rfl) rfl (fun _ => rfl)) (.nil _)) (Rn.ownA (Nat.le_of_ble_eq_true rfl) rfl (by first | rfl | simp only [List.length_set]))⟩
    replace hF := of_neg hF hc16
    refine TS.sk (NX.sq (TS.sq (TS.rg (TI.ra 2 [4] (st 27 [(4, .slice none 0 0)]) (TI.dn (NX.sq (TS.rt ?_)))))))
    refine ⟨.inr rfl, rfl, .slice none 0 0, .slice none 0 0, (H77_3 p0 p1), by kernel_rfl, WkV.refl, (TI.rn 0 [0, 24] [0, 1, 2] (st 36 [(0, sv 0 2 2), (24, .slice none 0 0)]) (H77_3 p0 p1) (TI.ra 1 [0, 6] (st 36 [(0, sv 0 2 2), (6, .slice none 0 0)]) (TI.dn (NX.sq (TS.sq (TS.sq (TS.rg (TI.ra 3 [6, 25, 26, 27] (st 36 [(6, .slice none 0 0), (25, sv 0 2 2), (26, iv 2), (27, iv 0)]) ?_))))))))⟩
    refine TI.dn (NX.sq (TS.bk 2 (TS.lp (TL.round (TS.sq (TS.rg (TI.ra 1 [6, 25, 26, 27, 28] (st 36 [(6, .slice none 0 0), (25, sv 0 2 2), (26, iv 2), (27, iv 0), (28, .bool true)]) (TI.dn ?_))))))))
    refine NX.sq (TS.sq (TS.cdT (.tmp 28) (TS.sk (NX.sq (TS.sq (TS.bk 3 (TS.sq (TS.rg ?_))))))))
    refine TI.ra 3 [6, 8, 25, 26, 27] (st 36 [(6, .slice none 0 0), (8, sv 1 p0.length ANY), (25, sv 0 2 2), (26, iv 2), (27, iv 0)]) (TI.dn (NX.sq ?_))
    have hX := of_guard hF
    clear hF
    obtain ⟨hg23, hF⟩ := hX
    refine TS.rg (TI.ra 2 [25, 26, 27, 31, 32] (st 36 [(25, sv 0 2 2), (26, iv 2), (27, iv 0), (31, .slice none 0 0), (32, sv 1 p0.length ANY)]) ?_)
    refine TI.accN (s := 4) (enc := e86) (ts := #[22, 22]) (e := 86) (bytes := 32) (z := ag [iv 0, .bool false, iv 0, .bool false]) (y := sv 1 p0.length ANY) (ys := p0) (by kernel_rfl) (by kernel_rfl) (by kernel_rfl) (by kernel_rfl) (by kernel_rfl) (by kernel_rfl) (arg_win (e := 86) (off := 0) (L := p0) (ys := p0) win_all (holds_acc (hp := (H77_3 p0 p1)) (b := 1) (T := 86) (enc := e86) (L := p0) (by kernel_rfl)) (fun _ => rfl) (by kernel_rfl)) (by first | omega | (simp only [List.length_append, List.length_cons, List.length_nil]; omega)) [25, 26, 27, 33] [0, 1, 2, 3] (a2 := (st 36 [(25, sv 0 2 2), (26, iv 2), (27, iv 0), (33, accV 3 p0.length)])) (h2 := (H77_2 p0 p1)) (by kernel_rfl) (TI.ra 1 [6, 25, 26, 27] (st 36 [(6, accV 3 p0.length), (25, sv 0 2 2), (26, iv 2), (27, iv 0)]) (TI.dn (NX.bk (NX.sq (TS.rg (TI.ra 2 [6, 25, 26, 27] (st 36 [(6, accV 3 p0.length), (25, sv 0 2 2), (26, iv 2), (27, iv 1)]) (TI.dn ?_)))))))
    refine Rd.again Wk.refl (TL.round (TS.sq (TS.rg (TI.ra 1 [6, 25, 26, 27, 28] (st 36 [(6, accV 3 p0.length), (25, sv 0 2 2), (26, iv 2), (27, iv 1), (28, .bool true)]) (TI.dn (NX.sq (TS.sq (TS.cdT (.tmp 28) (TS.sk ?_)))))))))
    refine NX.sq (TS.sq (TS.bk 3 (TS.sq (TS.rg (TI.ra 3 [6, 8, 25, 26, 27] (st 36 [(6, accV 3 p0.length), (8, sv 2 p1.length ANY), (25, sv 0 2 2), (26, iv 2), (27, iv 1)]) (TI.dn (NX.sq ?_)))))))
    have hX := of_guard hF
    clear hF
    obtain ⟨hg24, hF⟩ := hX
    refine TS.rg (TI.ra 2 [25, 26, 27, 31, 32] (st 36 [(25, sv 0 2 2), (26, iv 2), (27, iv 1), (31, accV 3 p0.length), (32, sv 2 p1.length ANY)]) ?_)
    refine TI.accL (l := p0) (b := 3) (s := 4) (enc := e86) (ts := #[22, 22]) (e := 86) (bytes := 32) (z := ag [iv 0, .bool false, iv 0, .bool false]) (y := sv 2 p1.length ANY) (ys := p1) (by kernel_rfl) (by kernel_rfl) (by decide) (by kernel_rfl) (by kernel_rfl) (by kernel_rfl) (by kernel_rfl) (by kernel_rfl) (arg_win (e := 86) (off := 0) (L := p1) (ys := p1) win_all (holds_acc (hp := (H77_2 p0 p1)) (b := 2) (T := 86) (enc := e86) (L := p1) (by kernel_rfl)) (fun _ => rfl) (by kernel_rfl)) (cells_ok (fun _ => rfl)) (fun _ => rfl) (by first | omega | (simp only [List.length_append, List.length_cons, List.length_nil]; omega)) [25, 26, 27, 33] [0, 1, 2, 4] (a2 := (st 36 [(25, sv 0 2 2), (26, iv 2), (27, iv 1), (33, accV 4 (List.length (p0 ++ p1)))])) (h2 := [cl 22 [sv 1 p0.length ANY, sv 2 p1.length ANY], ab 86 e86 p0, ab 86 e86 p1, .dead, accB 86 (List.length (p0 ++ p1)) (List.flatMap e86 (p0 ++ p1))]) (by kernel_rfl) (TI.ra 1 [6, 25, 26, 27] (st 36 [(6, accV 4 (List.length (p0 ++ p1))), (25, sv 0 2 2), (26, iv 2), (27, iv 1)]) (TI.dn (NX.bk (NX.sq (TS.rg (TI.ra 2 [6, 25, 26, 27] (st 36 [(6, accV 4 (List.length (p0 ++ p1))), (25, sv 0 2 2), (26, iv 2), (27, iv 2)]) (TI.dn ?_)))))))
    refine Rd.again Wk.refl (TL.round (TS.sq (TS.rg (TI.ra 1 [6, 25, 26, 27, 28] (st 36 [(6, accV 4 (List.length (p0 ++ p1))), (25, sv 0 2 2), (26, iv 2), (27, iv 2), (28, .bool false)]) (TI.dn (NX.sq (TS.sq (TS.cdF (.tmp 28) (TS.ex 2 ?_)))))))))
    refine NX.sqX ?_
    refine Rd.out (by simp) (NX.bkX (NX.sq (TS.sq (TS.rg (TI.ra 2 [2] (st 36 [(2, accV 4 (List.length (p0 ++ p1)))]) (TI.dn (NX.sq (TS.rt ?_))))))))
    have hF := Option.some.inj hF
    subst hF
    exact ⟨.inr rfl, rfl, accV 4 (List.length (p0 ++ p1)), by kernel_rfl, WkV.made (L := 3) (f := [4]) (by decide) (by decide) rfl (.ac (.nil _)) (accAE (Nat.le_of_ble_eq_true rfl) rfl (by first | rfl | simp only [List.length_set]))⟩
   clear hF
   have hF := hm11
   clear hm11
   refine TS.start ?_
   refine TS.cd (.tmp 6) (decide (o4 < 0)) (fun hc25 => ?_) (fun hc25 => ?_)
   · replace hF := of_pos hF hc25
     cases hF
   replace hF := of_neg hF hc25
   refine TS.sk ?_
   have hF := Option.some.inj hF
   subst hF
   exact TS.weak (by exact (Wk.an [] (.lt (.sl (.sl .nil)) (.ac (.ac (.nil _)))) [.slice none 0 0, iv o4] (.fl (.fl .nil)))) hK
  clear hF
  have hF := hm8
  clear hm8
  refine TS.start ?_
  refine TS.cd (.tmp 20) (decide (o4 < 0)) (fun hc26 => ?_) (fun hc26 => ?_)
  · replace hF := of_pos hF hc26
    cases hF
  replace hF := of_neg hF hc26
  refine TS.sk ?_
  have hF := Option.some.inj hF
  subst hF
  exact TS.weak (by exact (Wk.an [] (.lt (.sl (.sl .nil)) (.ac (.ac (.nil _)))) [sv 0 2 2, iv o4, sv 0 2 2, iv 2, iv 1] (.sl (.fl (.sl (.fl (.fl .nil))))))) hK
 clear hF
 have hF := hm3
 clear hm3
 refine TS.start ?_
 refine TS.cd (.tmp 20) (decide ((w64 (0 + (p0.length : Int))) < 0)) (fun hc27 => ?_) (fun hc27 => ?_)
 · replace hF := of_pos hF hc27
   cases hF
 replace hF := of_neg hF hc27
 refine TS.sk ?_
 have hF := Option.some.inj hF
 subst hF
 exact TS.weak (by exact (Wk.an [] (.lt (.sl (.sl .nil)) (.ac (.ac (.nil _)))) [sv 0 2 2, iv (w64 (0 + (p0.length : Int))), sv 0 2 2, iv 2, iv 0] (.sl (.fl (.sl (.fl (.fl .nil))))))) hK
theorem C77 (p0 : (List ((Int × Bool) × (Int × Bool)))) (p1 : (List ((Int × Bool) × (Int × Bool)))) (r : (List ((Int × Bool) × (Int × Bool)))) (hF : F77 p0 p1 = some r) : PureSim Try.prog 77 [sv 0 2 2] (H77_3 p0 p1) (V77 3 r) (N77 3 r) :=
 PureSim.of_Fin Try.func77 (c := c77) (by kernel_rfl) (by kernel_rfl) 3 rfl [0] [0, 1, 2] (by kernel_rfl) (B77 p0 p1 r hF)
noncomputable def c36 : Code := Try.f36.code
def S36_0 (v28 : (List Int)) (v27 : Int) (r67 : ((Int × Bool) × Bool × (List ((Int × Bool) × (Int × Bool))))) (p1 : (List ((Int × Bool) × (Int × Bool)))) (o57 : ((Int × Bool) × (Int × Bool))) (r70 : (Int × Bool)) (r72 : (Int × Bool)) : CAct := (st 63 [(1, pt 1 0), (5, accV 2 v28.length), (6, iv v27), (7, pt 3 0), (8, pt 8 0), (10, .bool r67.2.1), (17, sv 0 p1.length ANY), (18, iv (p1.length : Int)), (19, iv v27), (44, .bool false), (45, .bool false), (46, pt 8 0), (47, pt 3 0), (48, ag [iv o57.1.1, .bool o57.1.2]), (49, ag [iv r70.1, .bool r70.2]), (50, pt 3 2), (51, ag [iv o57.2.1, .bool o57.2.2]), (52, ag [iv r72.1, .bool r72.2]), (53, sv 10 2 2)])
def H36_1 (p1 : (List ((Int × Bool) × (Int × Bool)))) (p0 : Int) (v28 : (List Int)) (o57 : ((Int × Bool) × (Int × Bool))) (r65 : (List ((Int × Bool) × (Int × Bool)))) (r67 : ((Int × Bool) × Bool × (List ((Int × Bool) × (Int × Bool))))) (r70 : (Int × Bool)) (r72 : (Int × Bool)) : List Blk := [ab 86 e86 p1, cl 24 [iv p0, sv 0 p1.length ANY], ab 3 e3 v28, cl 86 [iv o57.1.1, .bool o57.1.2, iv o57.2.1, .bool o57.2.2], .dead, ab 86 e86 r65, .dead, mb 50 u50 u50 r67.2.2, cl 126 [iv p0, sv 5 r65.length ANY, .map (some 7)], .dead, cl 50 [iv r70.1, .bool r70.2, iv r72.1, .bool r72.2]]
def H36_2 (p1 : (List ((Int × Bool) × (Int × Bool)))) (p0 : Int) (v28 : (List Int)) (o57 : ((Int × Bool) × (Int × Bool))) (r65 : (List ((Int × Bool) × (Int × Bool)))) : List Blk := [ab 86 e86 p1, cl 24 [iv p0, sv 0 p1.length ANY], ab 3 e3 v28, cl 86 [iv o57.1.1, .bool o57.1.2, iv o57.2.1, .bool o57.2.2], .dead, ab 86 e86 r65, .dead, .map 50 (List.map (mEnc u50 u50) ([] : (List ((Int × Bool) × (Int × Bool))))), cl 126 [iv p0, sv 5 r65.length ANY, .map (some 7)]]
def H36_3 (p1 : (List ((Int × Bool) × (Int × Bool)))) (p0 : Int) (v28 : (List Int)) (o57 : ((Int × Bool) × (Int × Bool))) (v27 : Int) : List Blk := [ab 86 e86 p1, cl 24 [iv p0, sv 0 p1.length ANY], ab 3 e3 v28, cl 86 [iv o57.1.1, .bool o57.1.2, iv o57.2.1, .bool o57.2.2], cl 22 [sv 0 (List.length (List.take (Int.toNat v27) p1)) ANY, .slice (some ⟨0, 0 + Int.toNat (w64 (v27 + 1)) * 4, none⟩) (List.length (List.drop (Int.toNat (w64 (v27 + 1))) p1)) ANY]]
def H36_4 (p1 : (List ((Int × Bool) × (Int × Bool)))) (p0 : Int) (v28 : (List Int)) (o57 : ((Int × Bool) × (Int × Bool))) (r65 : (List ((Int × Bool) × (Int × Bool)))) (r67 : ((Int × Bool) × Bool × (List ((Int × Bool) × (Int × Bool))))) : List Blk := [ab 86 e86 p1, cl 24 [iv p0, sv 0 p1.length ANY], ab 3 e3 v28, cl 86 [iv o57.1.1, .bool o57.1.2, iv o57.2.1, .bool o57.2.2], .dead, ab 86 e86 r65, .dead, mb 50 u50 u50 r67.2.2, cl 126 [iv p0, sv 5 r65.length ANY, .map (some 7)], .dead]
def H36_5 (p1 : (List ((Int × Bool) × (Int × Bool)))) (p0 : Int) (v28 : (List Int)) (r65 : (List ((Int × Bool) × (Int × Bool)))) (r67 : ((Int × Bool) × Bool × (List ((Int × Bool) × (Int × Bool))))) (r70 : (Int × Bool)) (r72 : (Int × Bool)) : List Blk := [ab 86 e86 p1, cl 24 [iv p0, sv 0 p1.length ANY], ab 3 e3 v28, .dead, .dead, ab 86 e86 r65, .dead, mb 50 u50 u50 r67.2.2, cl 126 [iv p0, sv 5 r65.length ANY, .map (some 7)], .dead, cl 50 [iv r70.1, .bool r70.2, iv r72.1, .bool r72.2]]
def H36_6 (p1 : (List ((Int × Bool) × (Int × Bool)))) (p0 : Int) (v28 : (List Int)) (o57 : ((Int × Bool) × (Int × Bool))) : List Blk := [ab 86 e86 p1, cl 24 [iv p0, sv 0 p1.length ANY], ab 3 e3 v28, cl 86 [iv o57.1.1, .bool o57.1.2, iv o57.2.1, .bool o57.2.2]]
def H36_7 (p1 : (List ((Int × Bool) × (Int × Bool)))) (p0 : Int) (v28 : (List Int)) : List Blk := [ab 86 e86 p1, cl 24 [iv p0, sv 0 p1.length ANY], ab 3 e3 v28, .dead, .dead, .dead, .dead, .dead, .dead, .dead, .dead]
def H36_8 (p1 : (List ((Int × Bool) × (Int × Bool)))) (p0 : Int) (v28 : (List Int)) : List Blk := [ab 86 e86 p1, cl 24 [iv p0, sv 0 p1.length ANY], ab 3 e3 v28]
noncomputable def c36f66 : Code := Try.f66.code
def F36l0 (p0 : Int) (p1 : (List ((Int × Bool) × (Int × Bool)))) (v28 : (List Int)) (v27 : Int) : Option (List Int) :=
 if decide (v27 < (p1.length : Int)) then
  if (0 : Int) ≤ v27 ∧ v27 < (p1.length : Int) then
   some (List.getD p1 (Int.toNat v27) ((0, false), (0, false))) >>= fun o57 =>
   if (0 : Int) ≤ v27 ∧ v27 ≤ (p1.length : Int) then
    if (0 : Int) ≤ w64 (v27 + 1) ∧ w64 (v27 + 1) ≤ (p1.length : Int) then
     F77 (List.take (Int.toNat v27) p1) (List.drop (Int.toNat (w64 (v27 + 1))) p1) >>= fun r65 =>
     F75 1 p0 r65 ([] : (List ((Int × Bool) × (Int × Bool)))) >>= fun r67 =>
     (
      if r67.2.1 then
       some (true)
      else
       F72 o57.1.1 o57.1.2 >>= fun r70 =>
       F72 o57.2.1 o57.2.2 >>= fun r72 =>
       F57 1 p0 r65 r67.2.2 ([(r70.1, r70.2), (r72.1, r72.2)]) >>= fun r74 =>
       some (!r74.1)
     : Option Bool) >>= fun m76 =>
     (
      if m76 then
       if List.length v28 ≤ 1000000000 then
        some (v28 ++ [v27])
       else none
      else
       some v28
     : Option (List Int)) >>= fun m79 =>
     F36l0 p0 p1 m79 (w64 (v27 + 1))
    else none
   else none
  else none
 else
  some v28
 partial_fixpoint
def F36 (p0 : Int) (p1 : (List ((Int × Bool) × (Int × Bool)))) : Option ((List Int) × Int) :=
 F26 p0 p1 >>= fun r1 =>
 if r1 != 0 then
  some ([], r1)
 else
  F36l0 p0 p1 ([]) 0 >>= fun r83 =>
  some (r83, 0)
def V36 (b : Nat) (r : ((List Int) × Int)) : Value := .tuple ⟨[accV (b + 0) r.1.length, iv r.2]⟩
def N36 (b : Nat) (r : ((List Int) × Int)) : List Blk := [ab 3 e3 r.1]
def P36l0 (p0 : Int) (p1 : (List ((Int × Bool) × (Int × Bool)))) (r : (List Int)) : Post := fun e a h => e = .exit 0 ∧ Wk Try.prog 1 1 a h (st 63 [(5, accV 1 r.length)]) [ab 86 e86 p1, ab 3 e3 r]
theorem L36l0 (p0 : Int) (p1 : (List ((Int × Bool) × (Int × Bool)))) (v28 : (List Int)) (v27 : Int) (r : (List Int)) (hF : F36l0 p0 p1 v28 v27 = some r) : TL Try.prog 1 1 c36.s2.s2.s2.s1.s2.bd.bd (st 63 [(1, pt 1 0), (5, accV 2 v28.length), (17, sv 0 p1.length ANY), (18, iv (p1.length : Int)), (19, iv v27)]) (H36_8 p1 p0 v28) (P36l0 p0 p1 r) := by
 refine F36l0.partial_correctness p0 p1 (motive := fun v28 v27 r => TL Try.prog 1 1 c36.s2.s2.s2.s1.s2.bd.bd (st 63 [(1, pt 1 0), (5, accV 2 v28.length), (17, sv 0 p1.length ANY), (18, iv (p1.length : Int)), (19, iv v27)]) (H36_8 p1 p0 v28) (P36l0 p0 p1 r)) ?_ v28 v27 r hF
 clear hF r v28 v27
 intro again ih v28 v27 r hF
 refine TL.round (TS.sq (TS.rg (TI.ra 1 [1, 5, 17, 18, 19, 20] (st 63 [(1, pt 1 0), (5, accV 2 v28.length), (17, sv 0 p1.length ANY), (18, iv (p1.length : Int)), (19, iv v27), (20, .bool (decide (v27 < (p1.length : Int))))]) (TI.dn (NX.sq (TS.sq ?_))))))
 refine TS.cd (.tmp 20) (decide (v27 < (p1.length : Int))) (fun hc55 => ?_) (fun hc55 => ?_)
 · replace hF := of_pos hF hc55
   refine TS.sk (NX.sq (TS.sq (TS.bk 1 (TS.sq ?_))))
   have hX := of_guard hF
   clear hF
   obtain ⟨hg56, hF⟩ := hX
   have hX := of_do hF
   clear hF
   obtain ⟨o57, h58, hF⟩ := hX
   replace h58 := Option.some.inj h58
   refine TS.rg (TI.ra 1 [1, 5, 17, 18, 19, 21] (st 63 [(1, pt 1 0), (5, accV 2 v28.length), (17, sv 0 p1.length ANY), (18, iv (p1.length : Int)), (19, iv v27), (21, iv v27)]) (TI.o { val := .pointer (some ⟨0, 0 + (Int.toNat v27) * 4, none⟩) } (q_ixS 0 0 ((Int.toNat v27) * 4) (by kernel_rfl) hg56) [1, 5, 17, 18, 19, 21, 22] [0, 1, 2] (st 63 [(1, pt 1 0), (5, accV 2 v28.length), (17, sv 0 p1.length ANY), (18, iv (p1.length : Int)), (19, iv v27), (21, iv v27), (22, .pointer (some ⟨0, 0 + (Int.toNat v27) * 4, none⟩))]) (H36_8 p1 p0 v28) (TI.o { val := ag [iv o57.1.1, .bool o57.1.2, iv o57.2.1, .bool o57.2.2] } (q_nAa Try.prog (H36_8 p1 p0 v28) 86 0 (0 + (Int.toNat v27) * 4) p1 e86 4 86 (Int.toNat v27) ((0, false), (0, false)) h58) [1, 5, 17, 18, 19, 21, 23] [0, 1, 2] (st 63 [(1, pt 1 0), (5, accV 2 v28.length), (17, sv 0 p1.length ANY), (18, iv (p1.length : Int)), (19, iv v27), (21, iv v27), (23, ag [iv o57.1.1, .bool o57.1.2, iv o57.2.1, .bool o57.2.2])]) (H36_8 p1 p0 v28) (TI.rn 3 [1, 5, 6, 7, 17, 18, 19] [0, 1, 2, 3] (st 63 [(1, pt 1 0), (5, accV 2 v28.length), (6, iv v27), (7, pt 3 0), (17, sv 0 p1.length ANY), (18, iv (p1.length : Int)), (19, iv v27)]) (H36_6 p1 p0 v28 o57) (TI.dn (NX.sq (TS.sq ?_)))))))
   have hX := of_guard hF
   clear hF
   obtain ⟨hg63, hF⟩ := hX
   have hX := of_guard hF
   clear hF
   obtain ⟨hg64, hF⟩ := hX
   have hX := of_do hF
   clear hF
   obtain ⟨r65, h66, hF⟩ := hX
   have hT : ∀ e ∈ ([⟨77, [sv 4 2 2], (H36_3 p1 p0 v28 o57 v27), sv 5 r65.length ANY, [ab 86 e86 r65]⟩] : List Entry), PureSim Try.prog e.g e.args e.h e.v e.new := by
    intro e he
    simp only [List.mem_cons, List.not_mem_nil, or_false] at he
    rcases he with rfl
    exact (PureSim.ren (hc := [cl 22 [sv 1 (List.length (List.take (Int.toNat v27) p1)) ANY, sv 2 (List.length (List.drop (Int.toNat (w64 (v27 + 1))) p1)) ANY], accB 86 (List.length (List.take (Int.toNat v27) p1)) (List.flatMap e86 (List.take (Int.toNat v27) p1)), accB 86 (List.length (List.drop (Int.toNat (w64 (v27 + 1))) p1)) (List.flatMap e86 (List.drop (Int.toNat (w64 (v27 + 1))) p1))]) (fun i => List.getD [(4, 0), (0, 0), (0, 0 + Int.toNat (w64 (v27 + 1)) * 4)] i (0, 0)) (C77 _ _ _ h66) (.cons (At.blk (b1 := cl 22 [sv 0 (List.length (List.take (Int.toNat v27) p1)) ANY, .slice (some ⟨0, 0 + Int.toNat (w64 (v27 + 1)) * 4, none⟩) (List.length (List.drop (Int.toNat (w64 (v27 + 1))) p1)) ANY]) (by kernel_rfl) (RnB.lit (.cons (Rn.win (i := 1) (i' := 0) (off := 0) (Nat.le_of_ble_eq_true (by rfl)) (by rfl) rfl) (.cons (Rn.win (i := 2) (i' := 0) (off := 0 + Int.toNat (w64 (v27 + 1)) * 4) (Nat.le_of_ble_eq_true (by rfl)) (by rfl) rfl) .nil)))) (.cons (At.win (s := 4) (b := 0) (off := 0) (L := p1) (ys := List.take (Int.toNat v27) p1) (by rfl) (win_take win_all _) (holds_acc (hp := (H36_3 p1 p0 v28 o57 v27)) (b := 0) (T := 86) (enc := e86) (L := p1) (by kernel_rfl)) (fun _ => rfl) (fun _ => rfl)) (.cons (At.win (s := 4) (b := 0) (off := 0 + Int.toNat (w64 (v27 + 1)) * 4) (L := p1) (ys := List.drop (Int.toNat (w64 (v27 + 1))) p1) (by rfl) (win_drop win_all _) (holds_acc (hp := (H36_3 p1 p0 v28 o57 v27)) (b := 0) (T := 86) (enc := e86) (L := p1) (by kernel_rfl)) (fun _ => rfl) (fun _ => rfl)) (.nil _)))) (.sl .nil) (Rn.anyS (i' := 5) (Nat.le_of_ble_eq_true rfl) rfl rfl) (newflat_cons (accB_flat (fun _ => rfl)) newflat_nil))
   refine TS.drawT [⟨77, [sv 4 2 2], (H36_3 p1 p0 v28 o57 v27), sv 5 r65.length ANY, [ab 86 e86 r65]⟩] hT mixed 13 [] (st 63 [(1, pt 1 0), (5, accV 2 v28.length), (6, iv v27), (7, pt 3 0), (17, sv 0 p1.length ANY), (18, iv (p1.length : Int)), (19, iv v27), (24, pt 1 0), (25, iv p0), (26, pt 1 1), (27, sv 0 p1.length ANY), (28, iv v27), (29, sv 0 (List.length (List.take (Int.toNat v27) p1)) ANY), (30, pt 1 1), (31, sv 0 p1.length ANY), (32, iv v27), (33, iv (w64 (v27 + 1))), (34, .slice (some ⟨0, 0 + Int.toNat (w64 (v27 + 1)) * 4, none⟩) (List.length (List.drop (Int.toNat (w64 (v27 + 1))) p1)) ANY), (35, sv 4 2 2), (36, sv 5 r65.length ANY)]) [ab 86 e86 p1, cl 24 [iv p0, sv 0 p1.length ANY], ab 3 e3 v28, cl 86 [iv o57.1.1, .bool o57.1.2, iv o57.2.1, .bool o57.2.2], cl 22 [sv 0 (List.length (List.take (Int.toNat v27) p1)) ANY, .slice (some ⟨0, 0 + Int.toNat (w64 (v27 + 1)) * 4, none⟩) (List.length (List.drop (Int.toNat (w64 (v27 + 1))) p1)) ANY], ab 86 e86 r65] ?_ ?_
   · exact QJ.rn (qs (st 63 [(1, pt 1 0), (5, accV 2 v28.length), (6, iv v27), (7, pt 3 0), (17, sv 0 p1.length ANY), (18, iv (p1.length : Int)), (19, iv v27), (24, pt 1 0), (25, iv p0), (26, pt 1 1), (27, sv 0 p1.length ANY), (28, iv v27)]) (H36_6 p1 p0 v28 o57) [] []) 5 (QJ.o { val := sv 0 (List.length (List.take (Int.toNat v27) p1)) ANY } (q_slAhi (P := Try.prog) (t := 22) (e := 86) (s := 4) (b := 0) (off := 0) (ys := p1) (k := .i64) (y := v27) (by kernel_rfl) (by kernel_rfl) (by kernel_rfl) hg63) (QJ.rn (qs (st 63 [(1, pt 1 0), (5, accV 2 v28.length), (6, iv v27), (7, pt 3 0), (17, sv 0 p1.length ANY), (18, iv (p1.length : Int)), (19, iv v27), (24, pt 1 0), (25, iv p0), (26, pt 1 1), (27, sv 0 p1.length ANY), (28, iv v27), (29, sv 0 (List.length (List.take (Int.toNat v27) p1)) ANY), (30, pt 1 1), (31, sv 0 p1.length ANY), (32, iv v27), (33, iv (w64 (v27 + 1)))]) (H36_6 p1 p0 v28 o57) [] []) 4 (QJ.o { val := .slice (some ⟨0, 0 + Int.toNat (w64 (v27 + 1)) * 4, none⟩) (List.length (List.drop (Int.toNat (w64 (v27 + 1))) p1)) ANY } (q_slAlo (P := Try.prog) (t := 22) (e := 86) (s := 4) (b := 0) (off := 0) (ys := p1) (k := .i64) (y := w64 (v27 + 1)) (by kernel_rfl) (by kernel_rfl) (by kernel_rfl) hg64) (QJ.rn (qs (st 63 [(1, pt 1 0), (5, accV 2 v28.length), (6, iv v27), (7, pt 3 0), (17, sv 0 p1.length ANY), (18, iv (p1.length : Int)), (19, iv v27), (24, pt 1 0), (25, iv p0), (26, pt 1 1), (27, sv 0 p1.length ANY), (28, iv v27), (29, sv 0 (List.length (List.take (Int.toNat v27) p1)) ANY), (30, pt 1 1), (31, sv 0 p1.length ANY), (32, iv v27), (33, iv (w64 (v27 + 1))), (34, .slice (some ⟨0, 0 + Int.toNat (w64 (v27 + 1)) * 4, none⟩) (List.length (List.drop (Int.toNat (w64 (v27 + 1))) p1)) ANY), (35, sv 4 2 2)]) (H36_3 p1 p0 v28 o57 v27) [(11, 4, 5)] []) 1 (QJ.o { val := sv 5 r65.length ANY, new := [ab 86 e86 r65] } (qOf_call (g := 77) (args := [sv 4 2 2]) (by kernel_rfl) lookC_hit) (QJ.dn ⟨by kernel_rfl, by kernel_rfl, by kernel_rfl⟩))))))
   refine TI.rn 0 [1, 5, 6, 7, 17, 18, 19, 25, 36] [0, 1, 2, 3, 5] (st 63 [(1, pt 1 0), (5, accV 2 v28.length), (6, iv v27), (7, pt 3 0), (17, sv 0 p1.length ANY), (18, iv (p1.length : Int)), (19, iv v27), (25, iv p0), (36, sv 5 r65.length ANY)]) [ab 86 e86 p1, cl 24 [iv p0, sv 0 p1.length ANY], ab 3 e3 v28, cl 86 [iv o57.1.1, .bool o57.1.2, iv o57.2.1, .bool o57.2.2], .dead, ab 86 e86 r65] (TI.ra 1 [1, 5, 6, 7, 17, 18, 19, 37] (st 63 [(1, pt 1 0), (5, accV 2 v28.length), (6, iv v27), (7, pt 3 0), (17, sv 0 p1.length ANY), (18, iv (p1.length : Int)), (19, iv v27), (37, ag [iv p0, sv 5 r65.length ANY])]) (TI.inline (g := 66) (args := [ag [iv p0, sv 5 r65.length ANY]]) (fn := Try.f66) (c := c36f66) (n := 6) (by kernel_rfl) (by kernel_rfl) (by kernel_rfl) (by kernel_rfl) (by kernel_rfl) [0] (a2 := (st 7 [(0, ag [iv p0, sv 5 r65.length ANY])])) (by kernel_rfl) (TS.sq (TS.rg (TI.rn 2 [1] [0, 1, 2, 3, 5, 6] (st 7 [(1, pt 6 0)]) [ab 86 e86 p1, cl 24 [iv p0, sv 0 p1.length ANY], ab 3 e3 v28, cl 86 [iv o57.1.1, .bool o57.1.2, iv o57.2.1, .bool o57.2.2], .dead, ab 86 e86 r65, cl 24 [iv p0, sv 5 r65.length ANY]] (TI.dn (NX.sq (TS.sq ?_))))))))
   refine TS.rg (TI.rn 5 [2] [0, 1, 2, 3, 5, 7, 8] (st 7 [(2, pt 8 0)]) (H36_2 p1 p0 v28 o57 r65) (TI.dn (NX.sq (TS.rt ?_))))
   refine ⟨.inr rfl, rfl, pt 8 0, pt 8 0, (H36_2 p1 p0 v28 o57 r65), by kernel_rfl, WkV.refl, (TI.rn 0 [1, 5, 6, 7, 17, 18, 19, 38] [0, 1, 2, 3, 5, 7, 8] (st 63 [(1, pt 1 0), (5, accV 2 v28.length), (6, iv v27), (7, pt 3 0), (17, sv 0 p1.length ANY), (18, iv (p1.length : Int)), (19, iv v27), (38, pt 8 0)]) (H36_2 p1 p0 v28 o57 r65) (TI.ra 1 [1, 5, 6, 7, 8, 17, 18, 19] (st 63 [(1, pt 1 0), (5, accV 2 v28.length), (6, iv v27), (7, pt 3 0), (8, pt 8 0), (17, sv 0 p1.length ANY), (18, iv (p1.length : Int)), (19, iv v27)]) (TI.dn (NX.sq (TS.sq ?_)))))⟩
   have hX := of_do hF
   clear hF
   obtain ⟨r67, h68, hF⟩ := hX
   refine TS.rg (TI.ra 1 [1, 5, 6, 7, 8, 17, 18, 19, 40] (st 63 [(1, pt 1 0), (5, accV 2 v28.length), (6, iv v27), (7, pt 3 0), (8, pt 8 0), (17, sv 0 p1.length ANY), (18, iv (p1.length : Int)), (19, iv v27), (40, pt 8 0)]) (TI.icallM (g := 75) (args := [pt 8 0]) (v := .tuple ⟨[ag [iv r67.1.1, .bool r67.1.2], .bool r67.2.1]⟩) (by kernel_rfl) (ImpSim.frameB (n := 3) (h := (H36_2 p1 p0 v28 o57 r65)) (ro := [cl 126 [iv p0, sv 1 r65.length ANY, .map (some 2)], ab 86 e86 r65]) (wr := [.map 50 (List.map (mEnc u50 u50) ([] : (List ((Int × Bool) × (Int × Bool)))))]) (wr' := [mb 50 u50 u50 r67.2.2]) (fun i => List.getD [(8, 0), (5, 0), (7, 0)] i (0, 0)) (C75 1 _ _ _ _ h68) rfl rfl (.cons (At.blk (b1 := cl 126 [iv p0, sv 5 r65.length ANY, .map (some 7)]) (by kernel_rfl) (RnB.lit (.fl (.cons (Rn.any _ _ _ _ _ _ (Nat.le_of_ble_eq_true rfl) rfl rfl (by decide)) (.cons (Rn.map _ (Nat.le_of_ble_eq_true rfl)) .nil))))) (.ac (.cons (At.blk (by kernel_rfl) (RnB.map _ _)) (.nil _)))) (by kernel_rfl) (by kernel_rfl) (by kernel_rfl) (.pp .nil) (by kernel_rfl)) [1, 5, 6, 7, 8, 17, 18, 19, 41] [0, 1, 2, 3, 5, 7, 8] (a2 := (st 63 [(1, pt 1 0), (5, accV 2 v28.length), (6, iv v27), (7, pt 3 0), (8, pt 8 0), (17, sv 0 p1.length ANY), (18, iv (p1.length : Int)), (19, iv v27), (41, .tuple ⟨[ag [iv r67.1.1, .bool r67.1.2], .bool r67.2.1]⟩)])) (h2 := [ab 86 e86 p1, cl 24 [iv p0, sv 0 p1.length ANY], ab 3 e3 v28, cl 86 [iv o57.1.1, .bool o57.1.2, iv o57.2.1, .bool o57.2.2], .dead, ab 86 e86 r65, .dead, mb 50 u50 u50 r67.2.2, cl 126 [iv p0, sv 5 r65.length ANY, .map (some 7)]]) (by kernel_rfl) (TI.rn 6 [1, 5, 6, 7, 8, 10, 17, 18, 19] [0, 1, 2, 3, 5, 7, 8] (st 63 [(1, pt 1 0), (5, accV 2 v28.length), (6, iv v27), (7, pt 3 0), (8, pt 8 0), (10, .bool r67.2.1), (17, sv 0 p1.length ANY), (18, iv (p1.length : Int)), (19, iv v27)]) (H36_4 p1 p0 v28 o57 r65 r67) (TI.dn (NX.sq (TS.sq ?_))))))
   have hX := of_do hF
   clear hF
   obtain ⟨m76, hm82, hF⟩ := hX
   have hK : NX Try.prog 1 1 [.sq c36.s2.s2.s2.s1.s2.bd.bd.s2.s2.s1.bd.s2.s2.s2.s2, .bk 1, .sq c36.s2.s2.s2.s1.s2.bd.bd.s2.s2.s2] (Rd Try.prog 1 1 c36.s2.s2.s2.s1.s2.bd.bd (P36l0 p0 p1 r)) .normal (st 63 [(1, pt 1 0), (5, accV 2 v28.length), (6, iv v27), (17, sv 0 p1.length ANY), (18, iv (p1.length : Int)), (19, iv v27), (56, .bool m76)]) (H36_7 p1 p0 v28) := by
    refine NX.sq ?_
    have hX := of_do hF
    clear hF
    obtain ⟨m79, hm80, hF⟩ := hX
    have hK : NX Try.prog 1 1 [.bk 1, .sq c36.s2.s2.s2.s1.s2.bd.bd.s2.s2.s2] (Rd Try.prog 1 1 c36.s2.s2.s2.s1.s2.bd.bd (P36l0 p0 p1 r)) .normal (st 63 [(1, pt 1 0), (5, accV 2 m79.length), (17, sv 0 p1.length ANY), (18, iv (p1.length : Int)), (19, iv v27)]) [ab 86 e86 p1, cl 24 [iv p0, sv 0 p1.length ANY], ab 3 e3 m79] := by
     refine NX.bk (NX.sq (TS.rg (TI.ra 2 [1, 5, 17, 18, 19] (st 63 [(1, pt 1 0), (5, accV 2 m79.length), (17, sv 0 p1.length ANY), (18, iv (p1.length : Int)), (19, iv (w64 (v27 + 1)))]) (TI.dn ?_))))
     exact Rd.again (a2 := (st 63 [(1, pt 1 0), (5, accV 2 m79.length), (17, sv 0 p1.length ANY), (18, iv (p1.length : Int)), (19, iv (w64 (v27 + 1)))])) (h2 := [ab 86 e86 p1, cl 24 [iv p0, sv 0 p1.length ANY], ab 3 e3 m79]) (Wk.an [1, 2] (.ac (.lt (.fl (.sl .nil)) (.ac (.nil _)))) [pt 1 0, accV 2 m79.length, sv 0 p1.length ANY, iv (p1.length : Int), iv (w64 (v27 + 1))] (.pp (.cons (Rn.acc (Nat.le_of_ble_eq_true rfl) rfl) (.sl (.fl (.fl .nil)))))) (ih m79 (w64 (v27 + 1)) _ hF)
    clear hF
    have hF := hm80
    clear hm80
    refine TS.start ?_
    cases m76 with
    | true =>
     replace hF := of_pos hF rfl
     refine TS.cdT (.tmp 56) ?_
     have hX := of_guard hF
     clear hF
     obtain ⟨hg81, hF⟩ := hX
     refine TS.rg (TI.rn 3 [1, 17, 18, 19, 57, 59] [0, 1, 2, 11] (st 63 [(1, pt 1 0), (17, sv 0 p1.length ANY), (18, iv (p1.length : Int)), (19, iv v27), (57, accV 2 v28.length), (59, sv 11 1 1)]) [ab 86 e86 p1, cl 24 [iv p0, sv 0 p1.length ANY], ab 3 e3 v28, .dead, .dead, .dead, .dead, .dead, .dead, .dead, .dead, cl 3 [iv v27]] (TI.acc (l := v28) (b := 2) (ts := #[38, 38]) (e := 3) (bytes := 8) (z := iv 0) (y := sv 11 1 1) (ys := [v27]) (xs := List.flatMap e3 ([v27])) (m := 1) (s := 1) (enc := e3) (by kernel_rfl) (by kernel_rfl) (by decide) (by kernel_rfl) (by kernel_rfl) (by kernel_rfl) (by kernel_rfl) (by kernel_rfl) (by kernel_rfl) (by kernel_rfl) (by kernel_rfl) (fun _ => rfl) rfl rfl (by omega) [1, 17, 18, 19, 60] [0, 1, 12] (a2 := (st 63 [(1, pt 1 0), (17, sv 0 p1.length ANY), (18, iv (p1.length : Int)), (19, iv v27), (60, sv 12 (List.length (v28 ++ [v27])) UNK)])) (h2 := [ab 86 e86 p1, cl 24 [iv p0, sv 0 p1.length ANY], .dead, .dead, .dead, .dead, .dead, .dead, .dead, .dead, .dead, .dead, .cells 3 (List.flatMap e3 (v28 ++ [v27]))]) (by kernel_rfl) (TI.ra 1 [1, 5, 17, 18, 19] (st 63 [(1, pt 1 0), (5, sv 12 (List.length (v28 ++ [v27])) UNK), (17, sv 0 p1.length ANY), (18, iv (p1.length : Int)), (19, iv v27)]) (TI.dn ?_))))
     have hF := Option.some.inj hF
     subst hF
     exact TS.weak (by exact (Wk.an [1, 12] (.ac (.lt (.fl (.sl .nil)) (.cons (At.accU (by kernel_rfl) rfl (fun _ => rfl)) (.nil _)))) [pt 1 0, sv 12 (List.length (v28 ++ [v27])) UNK, sv 0 p1.length ANY, iv (p1.length : Int), iv v27] (.pp (.cons (Rn.accU (Nat.le_of_ble_eq_true rfl) rfl (by simp)) (.sl (.fl (.fl .nil))))))) hK
    | false =>
     replace hF := of_neg hF rfl
     refine TS.cdF (.tmp 56) (TS.sk ?_)
     have hF := Option.some.inj hF
     subst hF
     exact TS.weak (by exact (Wk.an [1, 2] (.ac (.lt (.fl (.sl .nil)) (.ac (.nil _)))) [pt 1 0, accV 2 v28.length, sv 0 p1.length ANY, iv (p1.length : Int), iv v27] (.pp (.cons (Rn.acc (Nat.le_of_ble_eq_true rfl) rfl) (.sl (.fl (.fl .nil))))))) hK
   rcases Bool.eq_false_or_eq_true (r67.2.1) with hc69 | hc69
   · replace hm82 := of_pos hm82 hc69
     have hm82 := Option.some.inj hm82
     subst hm82
     refine TS.dp [] (fun e he => by cases he) mixed 10 [1, 5, 6, 17, 18, 19, 56] [0, 1, 2] (st 63 [(1, pt 1 0), (5, accV 2 v28.length), (6, iv v27), (17, sv 0 p1.length ANY), (18, iv (p1.length : Int)), (19, iv v27), (56, .bool true)]) [ab 86 e86 p1, cl 24 [iv p0, sv 0 p1.length ANY], ab 3 e3 v28, .dead, .dead, .dead, .dead, .dead, .dead, .dead] ?_ ?_
     · exact QJ.o { val := .bool true } (q_conv (e := r67.2.1) (b := true) (by kernel_rfl) hc69) (QJ.rn (qs (st 63 [(1, pt 1 0), (5, accV 2 v28.length), (6, iv v27), (7, pt 3 0), (8, pt 8 0), (10, .bool r67.2.1), (17, sv 0 p1.length ANY), (18, iv (p1.length : Int)), (19, iv v27), (44, .bool true), (45, .bool true), (46, undef), (47, undef), (48, undef), (49, undef), (50, undef), (51, undef), (52, undef), (53, undef)]) (H36_4 p1 p0 v28 o57 r65 r67) [] []) 9 (QJ.dn ⟨rfl, SJ.la⟩))
     exact TS.weak (Wk.pad 1) hK
   replace hm82 := of_neg hm82 hc69
   have hX := of_do hm82
   clear hm82
   obtain ⟨r70, h71, hm82⟩ := hX
   have hX := of_do hm82
   clear hm82
   obtain ⟨r72, h73, hm82⟩ := hX
   have hX := of_do hm82
   clear hm82
   obtain ⟨r74, h75, hm82⟩ := hX
   have hm82 := Option.some.inj hm82
   subst hm82
   have hT : ∀ e ∈ ([⟨72, [ag [iv o57.1.1, .bool o57.1.2]], (H36_4 p1 p0 v28 o57 r65 r67), ag [iv r70.1, .bool r70.2], []⟩, ⟨72, [ag [iv o57.2.1, .bool o57.2.2]], (H36_4 p1 p0 v28 o57 r65 r67), ag [iv r72.1, .bool r72.2], []⟩] : List Entry), PureSim Try.prog e.g e.args e.h e.v e.new := by
    intro e he
    simp only [List.mem_cons, List.not_mem_nil, or_false] at he
    rcases he with rfl | rfl
    · exact PureSim.ak (C72 _ _ _ h71)
    exact PureSim.ak (C72 _ _ _ h73)
   refine TS.drawT [⟨72, [ag [iv o57.1.1, .bool o57.1.2]], (H36_4 p1 p0 v28 o57 r65 r67), ag [iv r70.1, .bool r70.2], []⟩, ⟨72, [ag [iv o57.2.1, .bool o57.2.2]], (H36_4 p1 p0 v28 o57 r65 r67), ag [iv r72.1, .bool r72.2], []⟩] hT mixed 10 [] (S36_0 v28 v27 r67 p1 o57 r70 r72) (H36_1 p1 p0 v28 o57 r65 r67 r70 r72) ?_ ?_
   · refine QJ.o { val := .bool false } (q_conv (e := r67.2.1) (b := false) (by kernel_rfl) hc69) (QJ.rn (qs (st 63 [(1, pt 1 0), (5, accV 2 v28.length), (6, iv v27), (7, pt 3 0), (8, pt 8 0), (10, .bool r67.2.1), (17, sv 0 p1.length ANY), (18, iv (p1.length : Int)), (19, iv v27), (44, .bool false), (45, .bool false), (46, pt 8 0), (47, pt 3 0), (48, ag [iv o57.1.1, .bool o57.1.2])]) (H36_4 p1 p0 v28 o57 r65 r67) [] []) 4 (QJ.o { val := ag [iv r70.1, .bool r70.2], new := [] } (qOf_call (g := 72) (args := [ag [iv o57.1.1, .bool o57.1.2]]) (by kernel_rfl) lookC_hit) (QJ.rn (qs (st 63 [(1, pt 1 0), (5, accV 2 v28.length), (6, iv v27), (7, pt 3 0), (8, pt 8 0), (10, .bool r67.2.1), (17, sv 0 p1.length ANY), (18, iv (p1.length : Int)), (19, iv v27), (44, .bool false), (45, .bool false), (46, pt 8 0), (47, pt 3 0), (48, ag [iv o57.1.1, .bool o57.1.2]), (49, ag [iv r70.1, .bool r70.2]), (50, pt 3 2), (51, ag [iv o57.2.1, .bool o57.2.2])]) (H36_4 p1 p0 v28 o57 r65 r67) [] []) 2 ?_)))
     exact QJ.o { val := ag [iv r72.1, .bool r72.2], new := [] } (qOf_call (g := 72) (args := [ag [iv o57.2.1, .bool o57.2.2]]) (by kernel_rfl) (lookC_skip (by intro _ ha hh; first | (exact absurd (congrArg List.length hh) (Nat.ne_of_beq_eq_false rfl)) | (have hr := Option.some.inj (h71.symm.trans (Eq.trans (congr (congrArg F72 (show o57.1.1 = o57.2.1 from congrArg (leafI 0) ha)) (show o57.1.2 = o57.2.2 from congrArg (leafB 1) ha)) h73)); first | (subst hr; rfl) | (cases hr; done) | (cases hr; rfl))) lookC_hit)) (QJ.rn (qs (S36_0 v28 v27 r67 p1 o57 r70 r72) (H36_1 p1 p0 v28 o57 r65 r67 r70 r72) [(9, 10, 11)] []) 1 (QJ.dn ⟨by kernel_rfl, by kernel_rfl, by kernel_rfl⟩))
   exact TI.rn 0 [1, 5, 6, 17, 18, 19, 45, 46, 53] [0, 1, 2, 5, 7, 8, 10] (st 63 [(1, pt 1 0), (5, accV 2 v28.length), (6, iv v27), (17, sv 0 p1.length ANY), (18, iv (p1.length : Int)), (19, iv v27), (45, .bool false), (46, pt 8 0), (53, sv 10 2 2)]) (H36_5 p1 p0 v28 r65 r67 r70 r72) (TI.icallM (g := 57) (args := [pt 8 0, sv 10 2 2]) (v := .bool r74.1) (by kernel_rfl) (ImpSim.frameB (n := 4) (h := (H36_5 p1 p0 v28 r65 r67 r70 r72)) (ro := [cl 126 [iv p0, sv 1 r65.length ANY, .map (some 3)], ab 86 e86 r65, accB 50 (List.length ([(r70.1, r70.2), (r72.1, r72.2)])) (List.flatMap e50 ([(r70.1, r70.2), (r72.1, r72.2)]))]) (wr := [mb 50 u50 u50 r67.2.2]) (wr' := [mb 50 u50 u50 r74.2]) (fun i => List.getD [(8, 0), (5, 0), (10, 0), (7, 0)] i (0, 0)) (C57 1 _ _ _ _ _ h75) rfl rfl (.cons (At.blk (b1 := cl 126 [iv p0, sv 5 r65.length ANY, .map (some 7)]) (by kernel_rfl) (RnB.lit (.fl (.cons (Rn.any _ _ _ _ _ _ (Nat.le_of_ble_eq_true rfl) rfl rfl (by decide)) (.cons (Rn.map _ (Nat.le_of_ble_eq_true rfl)) .nil))))) (.ac (.cons (At.accU (by kernel_rfl) rfl (fun _ => rfl)) (.cons (At.blk (by kernel_rfl) (RnB.map _ _)) (.nil _))))) (by kernel_rfl) (by kernel_rfl) (by kernel_rfl) (.pp (.cons (Rn.any _ _ _ _ _ _ (Nat.le_of_ble_eq_true rfl) rfl rfl (by decide)) .nil)) (by kernel_rfl)) [1, 5, 6, 17, 18, 19, 45, 54] [0, 1, 2] (a2 := (st 63 [(1, pt 1 0), (5, accV 2 v28.length), (6, iv v27), (17, sv 0 p1.length ANY), (18, iv (p1.length : Int)), (19, iv v27), (45, .bool false), (54, .bool r74.1)])) (h2 := (H36_7 p1 p0 v28)) (by kernel_rfl) (TI.ra 2 [1, 5, 6, 17, 18, 19, 56] (st 63 [(1, pt 1 0), (5, accV 2 v28.length), (6, iv v27), (17, sv 0 p1.length ANY), (18, iv (p1.length : Int)), (19, iv v27), (56, .bool (!r74.1))]) (TI.dn hK)))
 replace hF := of_neg hF hc55
 refine TS.ex 0 (NX.sqX ?_)
 have hF := Option.some.inj hF
 subst hF
 exact Rd.out (e := .exit 0) (by intro h; cases h) (And.intro rfl (Wk.an [2] (.ac (.ac (.nil _))) [accV 2 v28.length] (.cons (Rn.acc (Nat.le_of_ble_eq_true rfl) rfl) .nil)))
theorem B36 (p0 : Int) (p1 : (List ((Int × Bool) × (Int × Bool)))) (r : ((List Int) × Int)) (hF : F36 p0 p1 = some r) : TS Try.prog 1 1 c36 (st 63 [(0, ag [iv p0, sv 0 p1.length ANY])]) [ab 86 e86 p1] (NX Try.prog 1 1 [] (FinP Try.prog Try.f36 1 (V36 1 r) (N36 1 r))) := by
 unfold F36 at hF
 refine TS.sq (TS.rg (TI.rn 3 [1] [0, 1] (st 63 [(1, pt 1 0)]) [ab 86 e86 p1, cl 24 [iv p0, sv 0 p1.length ANY]] (TI.dn (NX.sq (TS.sq (TS.sq ?_))))))
 have hX := of_do hF
 clear hF
 obtain ⟨r1, h2, hF⟩ := hX
 refine TS.rg (TI.ra 1 [1, 11] (st 63 [(1, pt 1 0), (11, ag [iv p0, sv 0 p1.length ANY])]) (TI.cp 26 [ag [iv p0, sv 0 p1.length ANY]] (iv r1) [] (PureSim.ren (hc := [ab 86 e86 p1]) (fun i => List.getD [(0, 0)] i (0, 0)) (C26 _ _ _ h2) (.ac (.nil _)) (.cons (Rn.agg' (.fl (.cons (Rn.any _ _ _ _ _ _ (Nat.le_of_ble_eq_true rfl) rfl rfl (by decide)) .nil))) .nil) (.flat (by kernel_rfl)) newflat_nil) (TI.ra 1 [1, 4] (st 63 [(1, pt 1 0), (4, iv r1)]) (TI.dn (NX.sq (TS.sq (TS.rg (TI.ra 2 [1, 4, 14] (st 63 [(1, pt 1 0), (4, iv r1), (14, .bool (r1 != 0))]) ?_))))))))
 refine TI.dn (NX.sq ?_)
 refine TS.cd (.tmp 14) (r1 != 0) (fun hc3 => ?_) (fun hc3 => ?_)
 · replace hF := of_pos hF hc3
   refine TS.sq (TS.rg (TI.rn 3 [2, 3] [0] (st 63 [(2, .slice none 0 0), (3, iv r1)]) [ab 86 e86 p1, .dead] (TI.dn (NX.sq (TS.rt (NX.sqR ?_))))))
   have hF := Option.some.inj hF
   subst hF
   exact ⟨.inr rfl, rfl, .tuple ⟨[.slice none 0 0, iv r1]⟩, by kernel_rfl, WkV.made (L := 1) (f := [2]) (by decide) (by decide) rfl (.cons At.accN (.nil _)) (Rn.tuple' (.cons Rn.accN (.fl .nil)))⟩
 replace hF := of_neg hF hc3
 refine TS.sk (NX.sq (TS.sq (TS.rg (TI.ra 1 [1, 5] (st 63 [(1, pt 1 0), (5, .slice none 0 0)]) (TI.dn (NX.sq (TS.sq (TS.sq ?_))))))))
 refine TS.rg (TI.ra 4 [1, 5, 17, 18, 19] (st 63 [(1, pt 1 0), (5, .slice none 0 0), (17, sv 0 p1.length ANY), (18, iv (p1.length : Int)), (19, iv 0)]) (TI.dn (NX.sq (TS.bk 0 ?_))))
 have hX := of_do hF
 clear hF
 obtain ⟨r83, h84, hF⟩ := hX
 refine TS.lp (TL.weak (a2 := (st 63 [(1, pt 1 0), (5, accV 2 (List.length ([]))), (17, sv 0 p1.length ANY), (18, iv (p1.length : Int)), (19, iv 0)])) (h2 := [ab 86 e86 p1, cl 24 [iv p0, sv 0 p1.length ANY], accB 3 (List.length ([])) (List.flatMap e3 ([]))]) (Wk.an [1, 2] (.ac (.lt (.fl (.sl .nil)) (.cons At.accN (.nil _)))) [pt 1 0, .slice none 0 0, sv 0 p1.length ANY, iv (p1.length : Int), iv 0] (.pp (.cons (Rn.accN) (.sl (.fl (.fl .nil)))))) (TL.post (L36l0 p0 p1 ([]) 0 r83 h84) ?_))
 rintro e a1 h1 hp
 obtain ⟨rfl, hw⟩ := hp
 refine ⟨(st 63 [(5, accV 1 r83.length)]), [ab 86 e86 p1, ab 3 e3 r83], (NX.bkX (NX.sq (TS.sq (TS.rg (TI.ra 3 [2, 3] (st 63 [(2, accV 1 r83.length), (3, iv 0)]) (TI.dn (NX.sq (TS.rt ?_)))))))), hw⟩
 have hF := Option.some.inj hF
 subst hF
 exact ⟨.inr rfl, rfl, .tuple ⟨[accV 1 r83.length, iv 0]⟩, by kernel_rfl, WkV.made (L := 1) (f := [1]) (by decide) (by decide) rfl (.ac (.nil _)) (Rn.tuple' (.cons (Rn.acc (Nat.le_of_ble_eq_true rfl) rfl) (.fl .nil)))⟩
theorem C36 (p0 : Int) (p1 : (List ((Int × Bool) × (Int × Bool)))) (r : ((List Int) × Int)) (hF : F36 p0 p1 = some r) : PureSim Try.prog 36 [ag [iv p0, sv 0 p1.length ANY]] [ab 86 e86 p1] (V36 1 r) (N36 1 r) :=
 PureSim.of_Fin Try.func36 (c := c36) (by kernel_rfl) (by kernel_rfl) 1 rfl [0] [0] (by kernel_rfl) (B36 p0 p1 r hF)
noncomputable def c85 : Code := Try.f85.code
def F85 (p0 : Int) (p1 : Bool) (p2 : (List Bool)) : Option Bool :=
 some (decide (p0 < (p2.length : Int)))
def V85 (b : Nat) (r : Bool) : Value := .bool r
def N85 (b : Nat) (r : Bool) : List Blk := []
theorem B85 (p0 : Int) (p1 : Bool) (p2 : (List Bool)) (r : Bool) (hF : F85 p0 p1 p2 = some r) : TS Try.prog 2 2 c85 (st 9 [(0, ag [iv p0, .bool p1]), (1, pt 0 0)]) [cl 26 [sv 1 p2.length ANY], ab 4 e4 p2] (NX Try.prog 2 2 [] (FinP Try.prog Try.f85 2 (V85 2 r) (N85 2 r))) := by
 unfold F85 at hF
 refine TS.sq (TS.rg (TI.rn 2 [1, 2] [0, 1, 2] (st 9 [(1, pt 0 0), (2, pt 2 0)]) [cl 26 [sv 1 p2.length ANY], ab 4 e4 p2, cl 50 [iv p0, .bool p1]] (TI.dn (NX.sq (TS.sq (TS.rg (TI.rn 6 [3] [0, 1] (st 9 [(3, .bool (decide (p0 < (p2.length : Int))))]) [cl 26 [sv 1 p2.length ANY], ab 4 e4 p2, .dead] (TI.dn ?_))))))))
 refine NX.sq (TS.rt ?_)
 have hF := Option.some.inj hF
 subst hF
 exact ⟨.inr rfl, rfl, .bool (decide (p0 < (p2.length : Int))), by kernel_rfl, WkV.flat0 (by kernel_rfl) (Nat.le_of_ble_eq_true rfl)⟩
theorem C85 (p0 : Int) (p1 : Bool) (p2 : (List Bool)) (r : Bool) (hF : F85 p0 p1 p2 = some r) : PureSim Try.prog 85 [ag [iv p0, .bool p1], pt 0 0] [cl 26 [sv 1 p2.length ANY], ab 4 e4 p2] (V85 2 r) (N85 2 r) :=
 PureSim.of_Fin Try.func85 (c := c85) (by kernel_rfl) (by kernel_rfl) 2 rfl [0, 1] [0, 1] (by kernel_rfl) (B85 p0 p1 p2 r hF)
noncomputable def c78 : Code := Try.f78.code
def S78_0 (p3 : (List (Int × Bool))) (p1 : (List ((Int × Bool) × (Int × Bool)))) (v16 : Int) (o35 : ((Int × Bool) × (Int × Bool))) (p2 : (List Bool)) : CAct := (st 82 [(2, sv 2 p3.length ANY), (3, pt 3 0), (4, pt 4 0), (7, .func (.func 85) ⟨[]⟩ ⟨[pt 4 0]⟩), (9, pt 5 0), (15, sv 0 p1.length ANY), (16, iv (p1.length : Int)), (17, iv v16), (31, .bool true), (33, ag [iv o35.1.1, .bool o35.1.2]), (34, sv 1 p2.length ANY)])
def H78_1 (p1 : (List ((Int × Bool) × (Int × Bool)))) (p2 : (List Bool)) (p3 : (List (Int × Bool))) (p0 : Int) : List Blk := [ab 86 e86 p1, ab 4 e4 p2, ab 50 e50 p3, cl 24 [iv p0, sv 0 p1.length ANY], .dead, cl 4 [.bool false], .cells 4 (List.flatMap e4 (p2 ++ [false])), cl 4 [.bool true], .cells 4 (List.flatMap e4 (p2 ++ [true]))]
def S78_2 (p3 : (List (Int × Bool))) (p1 : (List ((Int × Bool) × (Int × Bool)))) (v16 : Int) (o35 : ((Int × Bool) × (Int × Bool))) : CAct := (st 82 [(2, sv 2 p3.length ANY), (3, pt 3 0), (4, pt 4 0), (7, .func (.func 85) ⟨[]⟩ ⟨[pt 4 0]⟩), (9, pt 5 0), (15, sv 0 p1.length ANY), (16, iv (p1.length : Int)), (17, iv v16), (25, .bool true), (26, .func (.func 85) ⟨[]⟩ ⟨[pt 4 0]⟩), (28, ag [iv o35.2.1, .bool o35.2.2])])
def H78_3 (p1 : (List ((Int × Bool) × (Int × Bool)))) (p2 : (List Bool)) (p3 : (List (Int × Bool))) (p0 : Int) (o35 : ((Int × Bool) × (Int × Bool))) : List Blk := [ab 86 e86 p1, ab 4 e4 p2, ab 50 e50 p3, cl 24 [iv p0, sv 0 p1.length ANY], cl 26 [sv 1 p2.length ANY], cl 86 [iv o35.1.1, .bool o35.1.2, iv o35.2.1, .bool o35.2.2]]
def S78_4 (p3 : (List (Int × Bool))) (p1 : (List ((Int × Bool) × (Int × Bool)))) (v16 : Int) (o35 : ((Int × Bool) × (Int × Bool))) : CAct := (st 82 [(2, sv 2 p3.length ANY), (3, pt 3 0), (4, pt 4 0), (7, .func (.func 85) ⟨[]⟩ ⟨[pt 4 0]⟩), (9, pt 5 0), (15, sv 0 p1.length ANY), (16, iv (p1.length : Int)), (17, iv v16), (21, .func (.func 85) ⟨[]⟩ ⟨[pt 4 0]⟩), (23, ag [iv o35.1.1, .bool o35.1.2])])
def S78_5 (p3 : (List (Int × Bool))) (v62 : Int) (o76 : (Int × Bool)) : CAct := (st 82 [(2, sv 2 p3.length ANY), (3, pt 3 0), (4, pt 4 0), (7, .func (.func 85) ⟨[]⟩ ⟨[pt 4 0]⟩), (11, pt 5 0), (46, sv 2 p3.length ANY), (47, iv (p3.length : Int)), (48, iv v62), (52, .func (.func 85) ⟨[]⟩ ⟨[pt 4 0]⟩), (53, ag [iv o76.1, .bool o76.2])])
def H78_6 (p1 : (List ((Int × Bool) × (Int × Bool)))) (p2 : (List Bool)) (p3 : (List (Int × Bool))) (p0 : Int) : List Blk := [ab 86 e86 p1, ab 4 e4 p2, ab 50 e50 p3, cl 24 [iv p0, sv 0 p1.length ANY], .dead, cl 4 [.bool false], .cells 4 (List.flatMap e4 (p2 ++ [false])), cl 4 [.bool true]]
def S78_7 (p3 : (List (Int × Bool))) (p1 : (List ((Int × Bool) × (Int × Bool)))) (v16 : Int) (r41 : Bool) : CAct := (st 82 [(2, sv 2 p3.length ANY), (3, pt 3 0), (4, pt 4 0), (7, .func (.func 85) ⟨[]⟩ ⟨[pt 4 0]⟩), (9, pt 5 0), (15, sv 0 p1.length ANY), (16, iv (p1.length : Int)), (17, iv v16), (31, .bool true), (35, .bool r41)])
def H78_8 (p1 : (List ((Int × Bool) × (Int × Bool)))) (p2 : (List Bool)) (p3 : (List (Int × Bool))) (p0 : Int) : List Blk := [ab 86 e86 p1, ab 4 e4 p2, ab 50 e50 p3, cl 24 [iv p0, sv 0 p1.length ANY], .dead, cl 4 [.bool false], .cells 4 (List.flatMap e4 (p2 ++ [false]))]
def H78_9 (p1 : (List ((Int × Bool) × (Int × Bool)))) (p2 : (List Bool)) (p3 : (List (Int × Bool))) (p0 : Int) : List Blk := [ab 86 e86 p1, ab 4 e4 p2, ab 50 e50 p3, cl 24 [iv p0, sv 0 p1.length ANY], cl 26 [sv 1 p2.length ANY], .dead]
def H78_10 (p1 : (List ((Int × Bool) × (Int × Bool)))) (p2 : (List Bool)) (p3 : (List (Int × Bool))) (p0 : Int) : List Blk := [ab 86 e86 p1, ab 4 e4 p2, ab 50 e50 p3, cl 24 [iv p0, sv 0 p1.length ANY], cl 26 [sv 1 p2.length ANY]]
def S78_11 (p3 : (List (Int × Bool))) (p1 : (List ((Int × Bool) × (Int × Bool)))) (v16 : Int) : CAct := (st 82 [(2, sv 2 p3.length ANY), (3, pt 3 0), (4, pt 4 0), (7, .func (.func 85) ⟨[]⟩ ⟨[pt 4 0]⟩), (15, sv 0 p1.length ANY), (16, iv (p1.length : Int)), (17, iv v16), (44, .bool false)])
def S78_12 (p3 : (List (Int × Bool))) (p1 : (List ((Int × Bool) × (Int × Bool)))) (v16 : Int) : CAct := (st 82 [(2, sv 2 p3.length ANY), (3, pt 3 0), (4, pt 4 0), (7, .func (.func 85) ⟨[]⟩ ⟨[pt 4 0]⟩), (15, sv 0 p1.length ANY), (16, iv (p1.length : Int)), (17, iv (w64 (v16 + 1)))])
def S78_13 (p3 : (List (Int × Bool))) (v62 : Int) : CAct := (st 82 [(2, sv 2 p3.length ANY), (3, pt 3 0), (4, pt 4 0), (7, .func (.func 85) ⟨[]⟩ ⟨[pt 4 0]⟩), (46, sv 2 p3.length ANY), (47, iv (p3.length : Int)), (48, iv (w64 (v62 + 1)))])
def H78_14 (p1 : (List ((Int × Bool) × (Int × Bool)))) (p2 : (List Bool)) (p3 : (List (Int × Bool))) (p0 : Int) : List Blk := [ab 86 e86 p1, ab 4 e4 p2, ab 50 e50 p3, cl 24 [iv p0, sv 0 p1.length ANY], .dead, cl 4 [.bool false]]
def S78_15 (p3 : (List (Int × Bool))) (p1 : (List ((Int × Bool) × (Int × Bool)))) (v16 : Int) : CAct := (st 82 [(2, sv 2 p3.length ANY), (3, pt 3 0), (4, pt 4 0), (7, .func (.func 85) ⟨[]⟩ ⟨[pt 4 0]⟩), (15, sv 0 p1.length ANY), (16, iv (p1.length : Int)), (17, iv v16)])
def S78_16 (p3 : (List (Int × Bool))) (v62 : Int) : CAct := (st 82 [(2, sv 2 p3.length ANY), (3, pt 3 0), (4, pt 4 0), (7, .func (.func 85) ⟨[]⟩ ⟨[pt 4 0]⟩), (46, sv 2 p3.length ANY), (47, iv (p3.length : Int)), (48, iv v62)])
def S78_17 (p3 : (List (Int × Bool))) (p1 : (List ((Int × Bool) × (Int × Bool)))) : CAct := (st 82 [(2, sv 2 p3.length ANY), (3, pt 3 0), (4, pt 4 0), (7, .func (.func 85) ⟨[]⟩ ⟨[pt 4 0]⟩), (15, sv 0 p1.length ANY), (16, iv (p1.length : Int)), (17, iv 0)])
def S78_18 (p3 : (List (Int × Bool))) : CAct := (st 82 [(2, sv 2 p3.length ANY), (3, pt 3 0), (4, pt 4 0), (7, .func (.func 85) ⟨[]⟩ ⟨[pt 4 0]⟩), (46, sv 2 p3.length ANY), (47, iv (p3.length : Int)), (48, iv 0)])
def H78_19 (p1 : (List ((Int × Bool) × (Int × Bool)))) (p2 : (List Bool)) (p3 : (List (Int × Bool))) (p0 : Int) : List Blk := [ab 86 e86 p1, ab 4 e4 p2, ab 50 e50 p3, cl 24 [iv p0, sv 0 p1.length ANY], .dead]
def H78_20 (p1 : (List ((Int × Bool) × (Int × Bool)))) (p2 : (List Bool)) (p3 : (List (Int × Bool))) : List Blk := [ab 86 e86 p1, ab 4 e4 p2, ab 50 e50 p3]
def S78_21 (p3 : (List (Int × Bool))) : CAct := (st 82 [(2, sv 2 p3.length ANY), (3, pt 3 0), (4, pt 4 0), (7, .func (.func 85) ⟨[]⟩ ⟨[pt 4 0]⟩)])
def H78_22 (p2 : (List Bool)) : List Blk := [cl 26 [sv 1 p2.length ANY], ab 4 e4 p2]
def S78_23 (p3 : (List (Int × Bool))) : CAct := (st 82 [(2, sv 2 p3.length ANY), (3, pt 3 0), (4, pt 4 0)])
def V78 (b : Nat) (r : Int) : Value := iv r
def N78 (b : Nat) (r : Int) : List Blk := []
def F78l0 (p0 : Int) (p1 : (List ((Int × Bool) × (Int × Bool)))) (p2 : (List Bool)) (p3 : (List (Int × Bool))) (v16 : Int) : Option (Unit ⊕ Unit) :=
 if decide (v16 < (p1.length : Int)) then
  if (0 : Int) ≤ v16 ∧ v16 < (p1.length : Int) then
   some (List.getD p1 (Int.toNat v16) ((0, false), (0, false))) >>= fun o35 =>
   F85 o35.1.1 o35.1.2 p2 >>= fun r37 =>
   (
    if r37 then
     F85 o35.2.1 o35.2.2 p2 >>= fun r39 =>
     if r39 then
      F62 o35.1.1 o35.1.2 p2 >>= fun r41 =>
      if !r41 then
       F62 o35.2.1 o35.2.2 p2 >>= fun r44 =>
       some (!r44)
      else
       some (false)
     else
      some (false)
    else
     some (false)
   : Option Bool) >>= fun m46 =>
   if m46 then
    some (.inl ())
   else
    F78l0 p0 p1 p2 p3 (w64 (v16 + 1))
  else none
 else
  some (.inr ())
 partial_fixpoint
def F78l1 (p0 : Int) (p1 : (List ((Int × Bool) × (Int × Bool)))) (p2 : (List Bool)) (p3 : (List (Int × Bool))) (v62 : Int) : Option (Unit ⊕ Unit) :=
 if decide (v62 < (p3.length : Int)) then
  if (0 : Int) ≤ v62 ∧ v62 < (p3.length : Int) then
   some (List.getD p3 (Int.toNat v62) (0, false)) >>= fun o76 =>
   F85 o76.1 o76.2 p2 >>= fun r78 =>
   (
    if r78 then
     F62 o76.1 o76.2 p2 >>= fun r80 =>
     some (!r80)
    else
     some (false)
   : Option Bool) >>= fun m82 =>
   if m82 then
    some (.inl ())
   else
    F78l1 p0 p1 p2 p3 (w64 (v62 + 1))
  else none
 else
  some (.inr ())
 partial_fixpoint
def F78b (rec78 : Int → (List ((Int × Bool) × (Int × Bool))) → (List Bool) → (List (Int × Bool)) → Option Int) (p0 : Int) (p1 : (List ((Int × Bool) × (Int × Bool)))) (p2 : (List Bool)) (p3 : (List (Int × Bool))) : Option Int :=
 F78l0 p0 p1 p2 p3 0 >>= fun r48 =>
 match r48 with
 | .inl o50 =>
  some 0
 | .inr o51 =>
  F78l1 p0 p1 p2 p3 0 >>= fun r84 =>
  match r84 with
  | .inl o86 =>
   some 0
  | .inr o87 =>
   if (p2.length : Int) == p0 then
    some 1
   else
    if List.length p2 ≤ 1000000000 then
     rec78 p0 p1 (p2 ++ [false]) p3 >>= fun r90 =>
     rec78 p0 p1 (p2 ++ [true]) p3 >>= fun r92 =>
     some (w64 (r90 + r92))
    else none
def F78 : Nat → Int → (List ((Int × Bool) × (Int × Bool))) → (List Bool) → (List (Int × Bool)) → Option Int
 | 0 => fun _ _ _ _ => none
 | k + 1 => F78b (F78 k)
def P78l0 (p0 : Int) (p1 : (List ((Int × Bool) × (Int × Bool)))) (p2 : (List Bool)) (p3 : (List (Int × Bool))) (r : (Unit ⊕ Unit)) : Post := fun e a h => (match r with | .inl q0 => e = .ret ∧ Wk Try.prog 3 3 a h (st 82 [(6, iv 0)]) (H78_20 p1 p2 p3) | .inr q0 => e = .exit 0 ∧ Wk Try.prog 3 3 a h (S78_21 p3) (H78_10 p1 p2 p3 p0))
theorem L78l0 (p0 : Int) (p1 : (List ((Int × Bool) × (Int × Bool)))) (p2 : (List Bool)) (p3 : (List (Int × Bool))) (v16 : Int) (r : (Unit ⊕ Unit)) (hF : F78l0 p0 p1 p2 p3 v16 = some r) : TL Try.prog 3 3 c78.s2.s2.s1.s2.bd.bd (S78_15 p3 p1 v16) (H78_10 p1 p2 p3 p0) (P78l0 p0 p1 p2 p3 r) := by
 refine F78l0.partial_correctness p0 p1 p2 p3 (motive := fun v16 r => TL Try.prog 3 3 c78.s2.s2.s1.s2.bd.bd (S78_15 p3 p1 v16) (H78_10 p1 p2 p3 p0) (P78l0 p0 p1 p2 p3 r)) ?_ v16 r hF
 clear hF r v16
 intro again ih v16 r hF
 refine TL.round (TS.sq (TS.rg (TI.ra 1 [2, 3, 4, 7, 15, 16, 17, 18] (st 82 [(2, sv 2 p3.length ANY), (3, pt 3 0), (4, pt 4 0), (7, .func (.func 85) ⟨[]⟩ ⟨[pt 4 0]⟩), (15, sv 0 p1.length ANY), (16, iv (p1.length : Int)), (17, iv v16), (18, .bool (decide (v16 < (p1.length : Int))))]) (TI.dn (NX.sq (TS.sq ?_))))))
 refine TS.cd (.tmp 18) (decide (v16 < (p1.length : Int))) (fun hc33 => ?_) (fun hc33 => ?_)
 · replace hF := of_pos hF hc33
   refine TS.sk (NX.sq (TS.sq (TS.bk 1 (TS.sq ?_))))
   have hX := of_guard hF
   clear hF
   obtain ⟨hg34, hF⟩ := hX
   have hX := of_do hF
   clear hF
   obtain ⟨o35, h36, hF⟩ := hX
   replace h36 := Option.some.inj h36
   refine TS.rg (TI.o { val := .pointer (some ⟨0, 0 + (Int.toNat v16) * 4, none⟩) } (q_ixS 0 0 ((Int.toNat v16) * 4) (by kernel_rfl) hg34) [2, 3, 4, 7, 15, 16, 17, 19] [0, 1, 2, 3, 4] (st 82 [(2, sv 2 p3.length ANY), (3, pt 3 0), (4, pt 4 0), (7, .func (.func 85) ⟨[]⟩ ⟨[pt 4 0]⟩), (15, sv 0 p1.length ANY), (16, iv (p1.length : Int)), (17, iv v16), (19, .pointer (some ⟨0, 0 + (Int.toNat v16) * 4, none⟩))]) (H78_10 p1 p2 p3 p0) (TI.o { val := ag [iv o35.1.1, .bool o35.1.2, iv o35.2.1, .bool o35.2.2] } (q_nAa Try.prog (H78_10 p1 p2 p3 p0) 86 0 (0 + (Int.toNat v16) * 4) p1 e86 4 86 (Int.toNat v16) ((0, false), (0, false)) h36) [2, 3, 4, 7, 15, 16, 17, 20] [0, 1, 2, 3, 4] (st 82 [(2, sv 2 p3.length ANY), (3, pt 3 0), (4, pt 4 0), (7, .func (.func 85) ⟨[]⟩ ⟨[pt 4 0]⟩), (15, sv 0 p1.length ANY), (16, iv (p1.length : Int)), (17, iv v16), (20, ag [iv o35.1.1, .bool o35.1.2, iv o35.2.1, .bool o35.2.2])]) (H78_10 p1 p2 p3 p0) (TI.rn 2 [2, 3, 4, 7, 9, 15, 16, 17] [0, 1, 2, 3, 4, 5] (st 82 [(2, sv 2 p3.length ANY), (3, pt 3 0), (4, pt 4 0), (7, .func (.func 85) ⟨[]⟩ ⟨[pt 4 0]⟩), (9, pt 5 0), (15, sv 0 p1.length ANY), (16, iv (p1.length : Int)), (17, iv v16)]) (H78_3 p1 p2 p3 p0 o35) (TI.dn (NX.sq (TS.sq ?_))))))
   have hX := of_do hF
   clear hF
   obtain ⟨r37, h38, hF⟩ := hX
   have hX := of_do hF
   clear hF
   obtain ⟨m46, hm47, hF⟩ := hX
   have hK : NX Try.prog 3 3 [.sq c78.s2.s2.s1.s2.bd.bd.s2.s2.s1.bd.s2.s2, .bk 1, .sq c78.s2.s2.s1.s2.bd.bd.s2.s2.s2] (Rd Try.prog 3 3 c78.s2.s2.s1.s2.bd.bd (P78l0 p0 p1 p2 p3 r)) .normal (st 82 [(2, sv 2 p3.length ANY), (3, pt 3 0), (4, pt 4 0), (7, .func (.func 85) ⟨[]⟩ ⟨[pt 4 0]⟩), (15, sv 0 p1.length ANY), (16, iv (p1.length : Int)), (17, iv v16), (44, .bool m46)]) (H78_9 p1 p2 p3 p0) := by
    refine NX.sq ?_
    cases m46 with
    | true =>
     replace hF := of_pos hF rfl
     refine TS.cdT (.tmp 44) (TS.sq (TS.rg (TI.rn 1 [6] [0, 1, 2] (st 82 [(6, iv 0)]) [ab 86 e86 p1, ab 4 e4 p2, ab 50 e50 p3, .dead, .dead, .dead] (TI.dn (NX.sq (TS.rt (NX.bkR (NX.sqR ?_))))))))
     have hF := Option.some.inj hF
     subst hF
     exact Rd.out (e := .ret) (by intro h; cases h) (And.intro rfl (Wk.an [] (.ac (.ac (.ac (.nil _)))) [iv 0] (.fl .nil)))
    | false =>
     replace hF := of_neg hF rfl
     refine TS.cdF (.tmp 44) (TS.sk (NX.bk (NX.sq (TS.rg (TI.ra 2 [2, 3, 4, 7, 15, 16, 17] (S78_12 p3 p1 v16) (TI.dn ?_))))))
     exact Rd.again (a2 := (S78_12 p3 p1 v16)) (h2 := (H78_10 p1 p2 p3 p0)) (Wk.an [3, 4] (.ac (.ac (.ac (.lt (.fl (.sl .nil)) (.lt (.sl .nil) (.nil _)))))) [sv 2 p3.length ANY, pt 3 0, pt 4 0, .func (.func 85) ⟨[]⟩ ⟨[pt 4 0]⟩, sv 0 p1.length ANY, iv (p1.length : Int), iv (w64 (v16 + 1))] (.sl (.pp (.pp (.cons (Rn.func' .nil (.pp .nil)) (.sl (.fl (.fl .nil)))))))) (ih (w64 (v16 + 1)) _ hF)
   cases r37 with
   | true =>
    replace hm47 := of_pos hm47 rfl
    have hX := of_do hm47
    clear hm47
    obtain ⟨r39, h40, hm47⟩ := hX
    cases r39 with
    | true =>
     replace hm47 := of_pos hm47 rfl
     have hX := of_do hm47
     clear hm47
     obtain ⟨r41, h42, hm47⟩ := hX
     rcases Bool.eq_false_or_eq_true (!r41) with hc43 | hc43
     · replace hm47 := of_pos hm47 hc43
       have hX := of_do hm47
       clear hm47
       obtain ⟨r44, h45, hm47⟩ := hX
       have hm47 := Option.some.inj hm47
       subst hm47
       refine TS.rg (TI.ra 3 [2, 3, 4, 7, 9, 15, 16, 17, 21, 23] (S78_4 p3 p1 v16 o35) (TI.cp 85 [ag [iv o35.1.1, .bool o35.1.2], pt 4 0] (.bool true) [] (PureSim.ren (hc := (H78_22 p2)) (fun i => List.getD [(4, 0), (1, 0)] i (0, 0)) (C85 _ _ _ _ h38) (.cons (At.blk (b1 := cl 26 [sv 1 p2.length ANY]) (by kernel_rfl) (RnB.lit (.cons (Rn.any _ _ _ _ _ _ (Nat.le_of_ble_eq_true rfl) rfl rfl (by decide)) .nil))) (.ac (.nil _))) (.fl (.pp .nil)) (.flat (by kernel_rfl)) newflat_nil) (TI.ra 4 [2, 3, 4, 7, 9, 15, 16, 17, 25, 26, 28] (S78_2 p3 p1 v16 o35) (TI.cp 85 [ag [iv o35.2.1, .bool o35.2.2], pt 4 0] (.bool true) [] (PureSim.ren (hc := (H78_22 p2)) (fun i => List.getD [(4, 0), (1, 0)] i (0, 0)) (C85 _ _ _ _ h40) (.cons (At.blk (b1 := cl 26 [sv 1 p2.length ANY]) (by kernel_rfl) (RnB.lit (.cons (Rn.any _ _ _ _ _ _ (Nat.le_of_ble_eq_true rfl) rfl rfl (by decide)) .nil))) (.ac (.nil _))) (.fl (.pp .nil)) (.flat (by kernel_rfl)) newflat_nil) (TI.ra 5 [2, 3, 4, 7, 9, 15, 16, 17, 31, 33, 34] (S78_0 p3 p1 v16 o35 p2) (TI.callM (g := 62) (args := [ag [iv o35.1.1, .bool o35.1.2], sv 1 p2.length ANY]) (v := .bool r41) (new := []) (by kernel_rfl) (PureSim.ren (hc := [ab 4 e4 p2]) (fun i => List.getD [(1, 0)] i (0, 0)) (C62 _ _ _ _ h42) (.ac (.nil _)) (.fl (.cons (Rn.any _ _ _ _ _ _ (Nat.le_of_ble_eq_true rfl) rfl rfl (by decide)) .nil)) (.flat (by kernel_rfl)) newflat_nil) [2, 3, 4, 7, 9, 15, 16, 17, 31, 35] [0, 1, 2, 3, 4, 5] (a2 := (S78_7 p3 p1 v16 r41)) (h2 := (H78_3 p1 p2 p3 p0 o35)) (by kernel_rfl) (TI.o { val := .bool true } (q_conv (e := !r41) (b := true) (by kernel_rfl) hc43) [2, 3, 4, 7, 9, 15, 16, 17, 31, 36] [0, 1, 2, 3, 4, 5] (st 82 [(2, sv 2 p3.length ANY), (3, pt 3 0), (4, pt 4 0), (7, .func (.func 85) ⟨[]⟩ ⟨[pt 4 0]⟩), (9, pt 5 0), (15, sv 0 p1.length ANY), (16, iv (p1.length : Int)), (17, iv v16), (31, .bool true), (36, .bool true)]) (H78_3 p1 p2 p3 p0 o35) (TI.rn 5 [2, 3, 4, 7, 15, 16, 17, 38, 40, 41] [0, 1, 2, 3, 4] (st 82 [(2, sv 2 p3.length ANY), (3, pt 3 0), (4, pt 4 0), (7, .func (.func 85) ⟨[]⟩ ⟨[pt 4 0]⟩), (15, sv 0 p1.length ANY), (16, iv (p1.length : Int)), (17, iv v16), (38, .bool true), (40, ag [iv o35.2.1, .bool o35.2.2]), (41, sv 1 p2.length ANY)]) (H78_9 p1 p2 p3 p0) ?_))))))))
       exact TI.cp 62 [ag [iv o35.2.1, .bool o35.2.2], sv 1 p2.length ANY] (.bool r44) [] (PureSim.ren (hc := [ab 4 e4 p2]) (fun i => List.getD [(1, 0)] i (0, 0)) (C62 _ _ _ _ h45) (.ac (.nil _)) (.fl (.cons (Rn.any _ _ _ _ _ _ (Nat.le_of_ble_eq_true rfl) rfl rfl (by decide)) .nil)) (.flat (by kernel_rfl)) newflat_nil) (TI.ra 2 [2, 3, 4, 7, 15, 16, 17, 44] (st 82 [(2, sv 2 p3.length ANY), (3, pt 3 0), (4, pt 4 0), (7, .func (.func 85) ⟨[]⟩ ⟨[pt 4 0]⟩), (15, sv 0 p1.length ANY), (16, iv (p1.length : Int)), (17, iv v16), (44, .bool (!r44))]) (TI.dn hK))
     replace hm47 := of_neg hm47 hc43
     have hm47 := Option.some.inj hm47
     subst hm47
     refine TS.rg (TI.ra 3 [2, 3, 4, 7, 9, 15, 16, 17, 21, 23] (S78_4 p3 p1 v16 o35) (TI.cp 85 [ag [iv o35.1.1, .bool o35.1.2], pt 4 0] (.bool true) [] (PureSim.ren (hc := (H78_22 p2)) (fun i => List.getD [(4, 0), (1, 0)] i (0, 0)) (C85 _ _ _ _ h38) (.cons (At.blk (b1 := cl 26 [sv 1 p2.length ANY]) (by kernel_rfl) (RnB.lit (.cons (Rn.any _ _ _ _ _ _ (Nat.le_of_ble_eq_true rfl) rfl rfl (by decide)) .nil))) (.ac (.nil _))) (.fl (.pp .nil)) (.flat (by kernel_rfl)) newflat_nil) (TI.ra 4 [2, 3, 4, 7, 9, 15, 16, 17, 25, 26, 28] (S78_2 p3 p1 v16 o35) (TI.cp 85 [ag [iv o35.2.1, .bool o35.2.2], pt 4 0] (.bool true) [] (PureSim.ren (hc := (H78_22 p2)) (fun i => List.getD [(4, 0), (1, 0)] i (0, 0)) (C85 _ _ _ _ h40) (.cons (At.blk (b1 := cl 26 [sv 1 p2.length ANY]) (by kernel_rfl) (RnB.lit (.cons (Rn.any _ _ _ _ _ _ (Nat.le_of_ble_eq_true rfl) rfl rfl (by decide)) .nil))) (.ac (.nil _))) (.fl (.pp .nil)) (.flat (by kernel_rfl)) newflat_nil) (TI.ra 5 [2, 3, 4, 7, 9, 15, 16, 17, 31, 33, 34] (S78_0 p3 p1 v16 o35 p2) (TI.callM (g := 62) (args := [ag [iv o35.1.1, .bool o35.1.2], sv 1 p2.length ANY]) (v := .bool r41) (new := []) (by kernel_rfl) (PureSim.ren (hc := [ab 4 e4 p2]) (fun i => List.getD [(1, 0)] i (0, 0)) (C62 _ _ _ _ h42) (.ac (.nil _)) (.fl (.cons (Rn.any _ _ _ _ _ _ (Nat.le_of_ble_eq_true rfl) rfl rfl (by decide)) .nil)) (.flat (by kernel_rfl)) newflat_nil) [2, 3, 4, 7, 9, 15, 16, 17, 31, 35] [0, 1, 2, 3, 4, 5] (a2 := (S78_7 p3 p1 v16 r41)) (h2 := (H78_3 p1 p2 p3 p0 o35)) (by kernel_rfl) (TI.o { val := .bool false } (q_conv (e := !r41) (b := false) (by kernel_rfl) hc43) [2, 3, 4, 7, 9, 15, 16, 17, 31, 36] [0, 1, 2, 3, 4, 5] (st 82 [(2, sv 2 p3.length ANY), (3, pt 3 0), (4, pt 4 0), (7, .func (.func 85) ⟨[]⟩ ⟨[pt 4 0]⟩), (9, pt 5 0), (15, sv 0 p1.length ANY), (16, iv (p1.length : Int)), (17, iv v16), (31, .bool true), (36, .bool false)]) (H78_3 p1 p2 p3 p0 o35) (TI.rn 8 [2, 3, 4, 7, 15, 16, 17, 44] [0, 1, 2, 3, 4] (S78_11 p3 p1 v16) (H78_9 p1 p2 p3 p0) ?_))))))))
     exact TI.dn hK
    | false =>
     replace hm47 := of_neg hm47 rfl
     have hm47 := Option.some.inj hm47
     subst hm47
     exact TS.rg (TI.ra 3 [2, 3, 4, 7, 9, 15, 16, 17, 21, 23] (S78_4 p3 p1 v16 o35) (TI.cp 85 [ag [iv o35.1.1, .bool o35.1.2], pt 4 0] (.bool true) [] (PureSim.ren (hc := (H78_22 p2)) (fun i => List.getD [(4, 0), (1, 0)] i (0, 0)) (C85 _ _ _ _ h38) (.cons (At.blk (b1 := cl 26 [sv 1 p2.length ANY]) (by kernel_rfl) (RnB.lit (.cons (Rn.any _ _ _ _ _ _ (Nat.le_of_ble_eq_true rfl) rfl rfl (by decide)) .nil))) (.ac (.nil _))) (.fl (.pp .nil)) (.flat (by kernel_rfl)) newflat_nil) (TI.ra 4 [2, 3, 4, 7, 9, 15, 16, 17, 25, 26, 28] (S78_2 p3 p1 v16 o35) (TI.cp 85 [ag [iv o35.2.1, .bool o35.2.2], pt 4 0] (.bool false) [] (PureSim.ren (hc := (H78_22 p2)) (fun i => List.getD [(4, 0), (1, 0)] i (0, 0)) (C85 _ _ _ _ h40) (.cons (At.blk (b1 := cl 26 [sv 1 p2.length ANY]) (by kernel_rfl) (RnB.lit (.cons (Rn.any _ _ _ _ _ _ (Nat.le_of_ble_eq_true rfl) rfl rfl (by decide)) .nil))) (.ac (.nil _))) (.fl (.pp .nil)) (.flat (by kernel_rfl)) newflat_nil) (TI.rn 15 [2, 3, 4, 7, 15, 16, 17, 44] [0, 1, 2, 3, 4] (S78_11 p3 p1 v16) (H78_9 p1 p2 p3 p0) (TI.dn hK))))))
   | false =>
    replace hm47 := of_neg hm47 rfl
    have hm47 := Option.some.inj hm47
    subst hm47
    exact TS.rg (TI.ra 3 [2, 3, 4, 7, 9, 15, 16, 17, 21, 23] (S78_4 p3 p1 v16 o35) (TI.cp 85 [ag [iv o35.1.1, .bool o35.1.2], pt 4 0] (.bool false) [] (PureSim.ren (hc := (H78_22 p2)) (fun i => List.getD [(4, 0), (1, 0)] i (0, 0)) (C85 _ _ _ _ h38) (.cons (At.blk (b1 := cl 26 [sv 1 p2.length ANY]) (by kernel_rfl) (RnB.lit (.cons (Rn.any _ _ _ _ _ _ (Nat.le_of_ble_eq_true rfl) rfl rfl (by decide)) .nil))) (.ac (.nil _))) (.fl (.pp .nil)) (.flat (by kernel_rfl)) newflat_nil) (TI.rn 20 [2, 3, 4, 7, 15, 16, 17, 44] [0, 1, 2, 3, 4] (S78_11 p3 p1 v16) (H78_9 p1 p2 p3 p0) (TI.dn hK))))
 replace hF := of_neg hF hc33
 refine TS.ex 0 (NX.sqX ?_)
 have hF := Option.some.inj hF
 subst hF
 exact Rd.out (e := .exit 0) (by intro h; cases h) (And.intro rfl (Wk.an [3, 4] (.ac (.ac (.ac (.lt (.fl (.sl .nil)) (.lt (.sl .nil) (.nil _)))))) [sv 2 p3.length ANY, pt 3 0, pt 4 0, .func (.func 85) ⟨[]⟩ ⟨[pt 4 0]⟩] (.sl (.pp (.pp (.cons (Rn.func' .nil (.pp .nil)) .nil))))))
def P78l1 (p0 : Int) (p1 : (List ((Int × Bool) × (Int × Bool)))) (p2 : (List Bool)) (p3 : (List (Int × Bool))) (r : (Unit ⊕ Unit)) : Post := fun e a h => (match r with | .inl q0 => e = .ret ∧ Wk Try.prog 3 3 a h (st 82 [(6, iv 0)]) (H78_20 p1 p2 p3) | .inr q0 => e = .exit 2 ∧ Wk Try.prog 3 3 a h (S78_23 p3) (H78_10 p1 p2 p3 p0))
theorem L78l1 (p0 : Int) (p1 : (List ((Int × Bool) × (Int × Bool)))) (p2 : (List Bool)) (p3 : (List (Int × Bool))) (v62 : Int) (r : (Unit ⊕ Unit)) (hF : F78l1 p0 p1 p2 p3 v62 = some r) : TL Try.prog 3 3 c78.s2.s2.s2.s1.s2.bd.bd (S78_16 p3 v62) (H78_10 p1 p2 p3 p0) (P78l1 p0 p1 p2 p3 r) := by
 refine F78l1.partial_correctness p0 p1 p2 p3 (motive := fun v62 r => TL Try.prog 3 3 c78.s2.s2.s2.s1.s2.bd.bd (S78_16 p3 v62) (H78_10 p1 p2 p3 p0) (P78l1 p0 p1 p2 p3 r)) ?_ v62 r hF
 clear hF r v62
 intro again ih v62 r hF
 refine TL.round (TS.sq (TS.rg (TI.ra 1 [2, 3, 4, 7, 46, 47, 48, 49] (st 82 [(2, sv 2 p3.length ANY), (3, pt 3 0), (4, pt 4 0), (7, .func (.func 85) ⟨[]⟩ ⟨[pt 4 0]⟩), (46, sv 2 p3.length ANY), (47, iv (p3.length : Int)), (48, iv v62), (49, .bool (decide (v62 < (p3.length : Int))))]) (TI.dn (NX.sq (TS.sq ?_))))))
 refine TS.cd (.tmp 49) (decide (v62 < (p3.length : Int))) (fun hc74 => ?_) (fun hc74 => ?_)
 · replace hF := of_pos hF hc74
   refine TS.sk (NX.sq (TS.sq (TS.bk 3 (TS.sq ?_))))
   have hX := of_guard hF
   clear hF
   obtain ⟨hg75, hF⟩ := hX
   have hX := of_do hF
   clear hF
   obtain ⟨o76, h77, hF⟩ := hX
   replace h77 := Option.some.inj h77
   refine TS.rg (TI.o { val := .pointer (some ⟨2, 0 + (Int.toNat v62) * 2, none⟩) } (q_ixS 2 0 ((Int.toNat v62) * 2) (by kernel_rfl) hg75) [2, 3, 4, 7, 46, 47, 48, 50] [0, 1, 2, 3, 4] (st 82 [(2, sv 2 p3.length ANY), (3, pt 3 0), (4, pt 4 0), (7, .func (.func 85) ⟨[]⟩ ⟨[pt 4 0]⟩), (46, sv 2 p3.length ANY), (47, iv (p3.length : Int)), (48, iv v62), (50, .pointer (some ⟨2, 0 + (Int.toNat v62) * 2, none⟩))]) (H78_10 p1 p2 p3 p0) (TI.o { val := ag [iv o76.1, .bool o76.2] } (q_nAa Try.prog (H78_10 p1 p2 p3 p0) 50 2 (0 + (Int.toNat v62) * 2) p3 e50 2 50 (Int.toNat v62) (0, false) h77) [2, 3, 4, 7, 46, 47, 48, 51] [0, 1, 2, 3, 4] (st 82 [(2, sv 2 p3.length ANY), (3, pt 3 0), (4, pt 4 0), (7, .func (.func 85) ⟨[]⟩ ⟨[pt 4 0]⟩), (46, sv 2 p3.length ANY), (47, iv (p3.length : Int)), (48, iv v62), (51, ag [iv o76.1, .bool o76.2])]) (H78_10 p1 p2 p3 p0) (TI.rn 2 [2, 3, 4, 7, 11, 46, 47, 48] [0, 1, 2, 3, 4, 5] (st 82 [(2, sv 2 p3.length ANY), (3, pt 3 0), (4, pt 4 0), (7, .func (.func 85) ⟨[]⟩ ⟨[pt 4 0]⟩), (11, pt 5 0), (46, sv 2 p3.length ANY), (47, iv (p3.length : Int)), (48, iv v62)]) [ab 86 e86 p1, ab 4 e4 p2, ab 50 e50 p3, cl 24 [iv p0, sv 0 p1.length ANY], cl 26 [sv 1 p2.length ANY], cl 50 [iv o76.1, .bool o76.2]] (TI.dn (NX.sq (TS.sq ?_))))))
   have hX := of_do hF
   clear hF
   obtain ⟨r78, h79, hF⟩ := hX
   have hX := of_do hF
   clear hF
   obtain ⟨m82, hm83, hF⟩ := hX
   have hK : NX Try.prog 3 3 [.sq c78.s2.s2.s2.s1.s2.bd.bd.s2.s2.s1.bd.s2.s2, .bk 3, .sq c78.s2.s2.s2.s1.s2.bd.bd.s2.s2.s2] (Rd Try.prog 3 3 c78.s2.s2.s2.s1.s2.bd.bd (P78l1 p0 p1 p2 p3 r)) .normal (st 82 [(2, sv 2 p3.length ANY), (3, pt 3 0), (4, pt 4 0), (7, .func (.func 85) ⟨[]⟩ ⟨[pt 4 0]⟩), (46, sv 2 p3.length ANY), (47, iv (p3.length : Int)), (48, iv v62), (60, .bool m82)]) (H78_9 p1 p2 p3 p0) := by
    refine NX.sq ?_
    cases m82 with
    | true =>
     replace hF := of_pos hF rfl
     refine TS.cdT (.tmp 60) (TS.sq (TS.rg (TI.rn 1 [6] [0, 1, 2] (st 82 [(6, iv 0)]) [ab 86 e86 p1, ab 4 e4 p2, ab 50 e50 p3, .dead, .dead, .dead] (TI.dn (NX.sq (TS.rt (NX.bkR (NX.sqR ?_))))))))
     have hF := Option.some.inj hF
     subst hF
     exact Rd.out (e := .ret) (by intro h; cases h) (And.intro rfl (Wk.an [] (.ac (.ac (.ac (.nil _)))) [iv 0] (.fl .nil)))
    | false =>
     replace hF := of_neg hF rfl
     refine TS.cdF (.tmp 60) (TS.sk (NX.bk (NX.sq (TS.rg (TI.ra 2 [2, 3, 4, 7, 46, 47, 48] (S78_13 p3 v62) (TI.dn ?_))))))
     exact Rd.again (a2 := (S78_13 p3 v62)) (h2 := (H78_10 p1 p2 p3 p0)) (Wk.an [3, 4] (.ac (.ac (.ac (.lt (.fl (.sl .nil)) (.lt (.sl .nil) (.nil _)))))) [sv 2 p3.length ANY, pt 3 0, pt 4 0, .func (.func 85) ⟨[]⟩ ⟨[pt 4 0]⟩, sv 2 p3.length ANY, iv (p3.length : Int), iv (w64 (v62 + 1))] (.sl (.pp (.pp (.cons (Rn.func' .nil (.pp .nil)) (.sl (.fl (.fl .nil)))))))) (ih (w64 (v62 + 1)) _ hF)
   cases r78 with
   | true =>
    replace hm83 := of_pos hm83 rfl
    have hX := of_do hm83
    clear hm83
    obtain ⟨r80, h81, hm83⟩ := hX
    have hm83 := Option.some.inj hm83
    subst hm83
    exact TS.rg (TI.ra 2 [2, 3, 4, 7, 11, 46, 47, 48, 52, 53] (S78_5 p3 v62 o76) (TI.cp 85 [ag [iv o76.1, .bool o76.2], pt 4 0] (.bool true) [] (PureSim.ren (hc := (H78_22 p2)) (fun i => List.getD [(4, 0), (1, 0)] i (0, 0)) (C85 _ _ _ _ h79) (.cons (At.blk (b1 := cl 26 [sv 1 p2.length ANY]) (by kernel_rfl) (RnB.lit (.cons (Rn.any _ _ _ _ _ _ (Nat.le_of_ble_eq_true rfl) rfl rfl (by decide)) .nil))) (.ac (.nil _))) (.fl (.pp .nil)) (.flat (by kernel_rfl)) newflat_nil) (TI.rn 3 [2, 3, 4, 7, 46, 47, 48, 55, 56, 57] [0, 1, 2, 3, 4] (st 82 [(2, sv 2 p3.length ANY), (3, pt 3 0), (4, pt 4 0), (7, .func (.func 85) ⟨[]⟩ ⟨[pt 4 0]⟩), (46, sv 2 p3.length ANY), (47, iv (p3.length : Int)), (48, iv v62), (55, .bool true), (56, ag [iv o76.1, .bool o76.2]), (57, sv 1 p2.length ANY)]) (H78_9 p1 p2 p3 p0) (TI.cp 62 [ag [iv o76.1, .bool o76.2], sv 1 p2.length ANY] (.bool r80) [] (PureSim.ren (hc := [ab 4 e4 p2]) (fun i => List.getD [(1, 0)] i (0, 0)) (C62 _ _ _ _ h81) (.ac (.nil _)) (.fl (.cons (Rn.any _ _ _ _ _ _ (Nat.le_of_ble_eq_true rfl) rfl rfl (by decide)) .nil)) (.flat (by kernel_rfl)) newflat_nil) (TI.ra 2 [2, 3, 4, 7, 46, 47, 48, 60] (st 82 [(2, sv 2 p3.length ANY), (3, pt 3 0), (4, pt 4 0), (7, .func (.func 85) ⟨[]⟩ ⟨[pt 4 0]⟩), (46, sv 2 p3.length ANY), (47, iv (p3.length : Int)), (48, iv v62), (60, .bool (!r80))]) (TI.dn hK))))))
   | false =>
    replace hm83 := of_neg hm83 rfl
    have hm83 := Option.some.inj hm83
    subst hm83
    exact TS.rg (TI.ra 2 [2, 3, 4, 7, 11, 46, 47, 48, 52, 53] (S78_5 p3 v62 o76) (TI.cp 85 [ag [iv o76.1, .bool o76.2], pt 4 0] (.bool false) [] (PureSim.ren (hc := (H78_22 p2)) (fun i => List.getD [(4, 0), (1, 0)] i (0, 0)) (C85 _ _ _ _ h79) (.cons (At.blk (b1 := cl 26 [sv 1 p2.length ANY]) (by kernel_rfl) (RnB.lit (.cons (Rn.any _ _ _ _ _ _ (Nat.le_of_ble_eq_true rfl) rfl rfl (by decide)) .nil))) (.ac (.nil _))) (.fl (.pp .nil)) (.flat (by kernel_rfl)) newflat_nil) (TI.rn 6 [2, 3, 4, 7, 46, 47, 48, 60] [0, 1, 2, 3, 4] (st 82 [(2, sv 2 p3.length ANY), (3, pt 3 0), (4, pt 4 0), (7, .func (.func 85) ⟨[]⟩ ⟨[pt 4 0]⟩), (46, sv 2 p3.length ANY), (47, iv (p3.length : Int)), (48, iv v62), (60, .bool false)]) (H78_9 p1 p2 p3 p0) (TI.dn hK))))
 replace hF := of_neg hF hc74
 refine TS.ex 2 (NX.sqX ?_)
 have hF := Option.some.inj hF
 subst hF
 exact Rd.out (e := .exit 2) (by intro h; cases h) (And.intro rfl (Wk.an [3, 4] (.ac (.ac (.ac (.lt (.fl (.sl .nil)) (.lt (.sl .nil) (.nil _)))))) [sv 2 p3.length ANY, pt 3 0, pt 4 0] (.sl (.pp (.pp .nil)))))
theorem B78 (rec78 : Int → (List ((Int × Bool) × (Int × Bool))) → (List Bool) → (List (Int × Bool)) → Option Int) (hrec78 : ∀ (p0 : Int) (p1 : (List ((Int × Bool) × (Int × Bool)))) (p2 : (List Bool)) (p3 : (List (Int × Bool))) (r : Int), rec78 p0 p1 p2 p3 = some r → PureSim Try.prog 78 [ag [iv p0, sv 0 p1.length ANY], sv 1 p2.length ANY, sv 2 p3.length ANY] (H78_20 p1 p2 p3) (V78 3 r) (N78 3 r)) (p0 : Int) (p1 : (List ((Int × Bool) × (Int × Bool)))) (p2 : (List Bool)) (p3 : (List (Int × Bool))) (r : Int) (hF : F78b rec78 p0 p1 p2 p3 = some r) : TS Try.prog 3 3 c78 (st 82 [(0, ag [iv p0, sv 0 p1.length ANY]), (1, sv 1 p2.length ANY), (2, sv 2 p3.length ANY)]) (H78_20 p1 p2 p3) (NX Try.prog 3 3 [] (FinP Try.prog Try.f78 3 (V78 3 r) (N78 3 r))) := by
 unfold F78b at hF
 refine TS.sq (TS.rg (TI.rn 3 [2, 3, 4] [0, 1, 2, 3, 4] (S78_23 p3) (H78_10 p1 p2 p3 p0) (TI.dn (NX.sq (TS.sq (TS.rg (TI.ra 2 [2, 3, 4, 7] (S78_21 p3) (TI.dn ?_))))))))
 refine NX.sq (TS.sq (TS.sq (TS.rg (TI.ra 4 [2, 3, 4, 7, 15, 16, 17] (S78_17 p3 p1) (TI.dn (NX.sq (TS.bk 0 ?_)))))))
 have hX := of_do hF
 clear hF
 obtain ⟨r48, h49, hF⟩ := hX
 refine TS.lp (TL.weak (a2 := (S78_17 p3 p1)) (h2 := (H78_10 p1 p2 p3 p0)) (Wk.an [3, 4] (.ac (.ac (.ac (.lt (.fl (.sl .nil)) (.lt (.sl .nil) (.nil _)))))) [sv 2 p3.length ANY, pt 3 0, pt 4 0, .func (.func 85) ⟨[]⟩ ⟨[pt 4 0]⟩, sv 0 p1.length ANY, iv (p1.length : Int), iv 0] (.sl (.pp (.pp (.cons (Rn.func' .nil (.pp .nil)) (.sl (.fl (.fl .nil)))))))) (TL.post (L78l0 p0 p1 p2 p3 0 r48 h49) ?_))
 rintro e a1 h1 hp
 rcases r48 with o50 | o51
 · skip
   obtain ⟨rfl, hw⟩ := hp
   refine ⟨(st 82 [(6, iv 0)]), (H78_20 p1 p2 p3), (NX.bkR (NX.sqR ?_)), hw⟩
   have hF := Option.some.inj hF
   subst hF
   exact ⟨.inr rfl, rfl, iv 0, by kernel_rfl, WkV.flat0 (by kernel_rfl) (Nat.le_of_ble_eq_true rfl)⟩
 skip
 obtain ⟨rfl, hw⟩ := hp
 refine ⟨(S78_21 p3), (H78_10 p1 p2 p3 p0), (NX.bkX (NX.sq (TS.sq (TS.sq (TS.rg (TI.ra 3 [2, 3, 4, 7, 46, 47, 48] (S78_18 p3) (TI.dn (NX.sq ?_)))))))), hw⟩
 refine TS.bk 2 ?_
 have hX := of_do hF
 clear hF
 obtain ⟨r84, h85, hF⟩ := hX
 refine TS.lp (TL.weak (a2 := (S78_18 p3)) (h2 := (H78_10 p1 p2 p3 p0)) (Wk.an [3, 4] (.ac (.ac (.ac (.lt (.fl (.sl .nil)) (.lt (.sl .nil) (.nil _)))))) [sv 2 p3.length ANY, pt 3 0, pt 4 0, .func (.func 85) ⟨[]⟩ ⟨[pt 4 0]⟩, sv 2 p3.length ANY, iv (p3.length : Int), iv 0] (.sl (.pp (.pp (.cons (Rn.func' .nil (.pp .nil)) (.sl (.fl (.fl .nil)))))))) (TL.post (L78l1 p0 p1 p2 p3 0 r84 h85) ?_))
 rintro e a1 h1 hp
 rcases r84 with o86 | o87
 · skip
   obtain ⟨rfl, hw⟩ := hp
   refine ⟨(st 82 [(6, iv 0)]), (H78_20 p1 p2 p3), (NX.bkR (NX.sqR ?_)), hw⟩
   have hF := Option.some.inj hF
   subst hF
   exact ⟨.inr rfl, rfl, iv 0, by kernel_rfl, WkV.flat0 (by kernel_rfl) (Nat.le_of_ble_eq_true rfl)⟩
 skip
 obtain ⟨rfl, hw⟩ := hp
 refine ⟨(S78_23 p3), (H78_10 p1 p2 p3 p0), (NX.bkX (NX.sq (TS.sq (TS.sq (TS.rg (TI.ra 5 [2, 3, 4, 66] (st 82 [(2, sv 2 p3.length ANY), (3, pt 3 0), (4, pt 4 0), (66, .bool ((p2.length : Int) == p0))]) (TI.dn (NX.sq ?_)))))))), hw⟩
 refine TS.cd (.tmp 66) ((p2.length : Int) == p0) (fun hc88 => ?_) (fun hc88 => ?_)
 · replace hF := of_pos hF hc88
   refine TS.sq (TS.rg (TI.rn 1 [6] [0, 1, 2] (st 82 [(6, iv 1)]) [ab 86 e86 p1, ab 4 e4 p2, ab 50 e50 p3, .dead, .dead] (TI.dn (NX.sq (TS.rt (NX.sqR ?_))))))
   have hF := Option.some.inj hF
   subst hF
   exact ⟨.inr rfl, rfl, iv 1, by kernel_rfl, WkV.flat0 (by kernel_rfl) (Nat.le_of_ble_eq_true rfl)⟩
 replace hF := of_neg hF hc88
 refine TS.sk (NX.sq (TS.sq ?_))
 have hX := of_guard hF
 clear hF
 obtain ⟨hg89, hF⟩ := hX
 refine TS.rg (TI.rn 1 [2, 3, 67] [0, 1, 2, 3] (st 82 [(2, sv 2 p3.length ANY), (3, pt 3 0), (67, sv 1 p2.length ANY)]) (H78_19 p1 p2 p3 p0) ?_)
 refine TI.cp 86 [sv 1 p2.length ANY] (fl 1 0 p2) [] (PureSim.ren (hc := [ab 4 e4 p2]) (fun i => List.getD [(1, 0)] i (0, 0)) (C86 p2 hg89) (.cons (At.win (s := 1) (b := 1) (off := 0) (L := p2) (ys := p2) (by rfl) win_all (holds_acc (hp := (H78_19 p1 p2 p3 p0)) (b := 1) (T := 4) (enc := e4) (L := p2) (by kernel_rfl)) (fun _ => rfl) (fun _ => rfl)) (.nil _)) (.cons (Rn.any _ _ _ _ _ _ (Nat.le_of_ble_eq_true rfl) rfl rfl (by decide)) .nil) (Rn.flr (Nat.le_of_ble_eq_true rfl) rfl hg89) newflat_nil) (TI.ra 1 [2, 3, 12] (st 82 [(2, sv 2 p3.length ANY), (3, pt 3 0), (12, fl 1 0 p2)]) (TI.dn (NX.sq (TS.sq ?_))))
 have hX := of_do hF
 clear hF
 obtain ⟨r90, h91, hF⟩ := hX
 have hX := of_do hF
 clear hF
 obtain ⟨r92, h93, hF⟩ := hX
 have hT : ∀ e ∈ ([⟨78, [ag [iv p0, sv 0 p1.length ANY], sv 6 (List.length (p2 ++ [false])) UNK, sv 2 p3.length ANY], (H78_8 p1 p2 p3 p0), iv r90, []⟩, ⟨78, [ag [iv p0, sv 0 p1.length ANY], sv 8 (List.length (p2 ++ [true])) UNK, sv 2 p3.length ANY], (H78_1 p1 p2 p3 p0), iv r92, []⟩] : List Entry), PureSim Try.prog e.g e.args e.h e.v e.new := by
  intro e he
  simp only [List.mem_cons, List.not_mem_nil, or_false] at he
  rcases he with rfl | rfl
  · exact (PureSim.ren (hc := [ab 86 e86 p1, accB 4 (List.length (p2 ++ [false])) (List.flatMap e4 (p2 ++ [false])), ab 50 e50 p3]) (fun i => List.getD [(0, 0), (6, 0), (2, 0)] i (0, 0)) (hrec78 _ _ _ _ _ h91) (.ac (.cons (At.accU (by kernel_rfl) rfl (fun _ => rfl)) (.ac (.nil _)))) (.cons (Rn.agg' (.fl (.cons (Rn.any _ _ _ _ _ _ (Nat.le_of_ble_eq_true rfl) rfl rfl (by decide)) .nil))) (.cons (Rn.any _ _ _ _ _ _ (Nat.le_of_ble_eq_true rfl) rfl rfl (by decide)) (.cons (Rn.any _ _ _ _ _ _ (Nat.le_of_ble_eq_true rfl) rfl rfl (by decide)) .nil))) (.flat (by kernel_rfl)) newflat_nil)
  exact (PureSim.ren (hc := [ab 86 e86 p1, accB 4 (List.length (p2 ++ [true])) (List.flatMap e4 (p2 ++ [true])), ab 50 e50 p3]) (fun i => List.getD [(0, 0), (8, 0), (2, 0)] i (0, 0)) (hrec78 _ _ _ _ _ h93) (.ac (.cons (At.accU (by kernel_rfl) rfl (fun _ => rfl)) (.ac (.nil _)))) (.cons (Rn.agg' (.fl (.cons (Rn.any _ _ _ _ _ _ (Nat.le_of_ble_eq_true rfl) rfl rfl (by decide)) .nil))) (.cons (Rn.any _ _ _ _ _ _ (Nat.le_of_ble_eq_true rfl) rfl rfl (by decide)) (.cons (Rn.any _ _ _ _ _ _ (Nat.le_of_ble_eq_true rfl) rfl rfl (by decide)) .nil))) (.flat (by kernel_rfl)) newflat_nil)
 refine TS.dp [⟨78, [ag [iv p0, sv 0 p1.length ANY], sv 6 (List.length (p2 ++ [false])) UNK, sv 2 p3.length ANY], (H78_8 p1 p2 p3 p0), iv r90, []⟩, ⟨78, [ag [iv p0, sv 0 p1.length ANY], sv 8 (List.length (p2 ++ [true])) UNK, sv 2 p3.length ANY], (H78_1 p1 p2 p3 p0), iv r92, []⟩] hT mixed 11 [6] [0, 1, 2] (st 82 [(6, iv (w64 (r90 + r92)))]) [ab 86 e86 p1, ab 4 e4 p2, ab 50 e50 p3, .dead, .dead, .dead, .dead, .dead, .dead] ?_ ?_
 · refine QJ.rn (qs (st 82 [(2, sv 2 p3.length ANY), (3, pt 3 0), (12, fl 1 0 p2), (69, ag [iv p0, sv 0 p1.length ANY]), (70, fl 1 0 p2), (71, sv 5 1 1)]) (H78_14 p1 p2 p3 p0) [(2, 5, 6)] []) 3 (QJ.o { val := sv 6 (List.length (p2 ++ [false])) UNK, new := [.cells 4 (List.flatMap e4 (p2 ++ [false]))] } (q_appF (P := Try.prog) (base := 3) (hp := (H78_14 p1 p2 p3 p0)) (n := 6) (s := 1) (enc := e4) (ts := #[26, 26]) (e := 4) (bytes := 1) (z := .bool false) (w := sv 5 1 1) (ys2 := [false]) (t := 4) (b := 1) (L := p2) win_all (holds_acc (hp := (H78_14 p1 p2 p3 p0)) (b := 1) (T := 4) (enc := e4) (L := p2) (by kernel_rfl)) (by kernel_rfl) (litK_old (by decide)) (by kernel_rfl) (by kernel_rfl) (by kernel_rfl) (by kernel_rfl) (by kernel_rfl) (by kernel_rfl) (by kernel_rfl) hg89 (fun _ => rfl) (by simp only [List.length_cons, List.length_nil]; omega)) (QJ.rn (qs (st 82 [(2, sv 2 p3.length ANY), (3, pt 3 0), (12, fl 1 0 p2), (69, ag [iv p0, sv 0 p1.length ANY]), (70, fl 1 0 p2), (71, sv 5 1 1), (72, sv 6 (List.length (p2 ++ [false])) UNK), (73, sv 2 p3.length ANY)]) (H78_8 p1 p2 p3 p0) [(3, 6, 7), (2, 5, 6)] []) 1 (QJ.o { val := iv r90, new := [] } (qOf_call (g := 78) (args := [ag [iv p0, sv 0 p1.length ANY], sv 6 (List.length (p2 ++ [false])) UNK, sv 2 p3.length ANY]) (by kernel_rfl) lookC_hit) (QJ.rn (qs (st 82 [(2, sv 2 p3.length ANY), (3, pt 3 0), (12, fl 1 0 p2), (69, ag [iv p0, sv 0 p1.length ANY]), (70, fl 1 0 p2), (71, sv 5 1 1), (72, sv 6 (List.length (p2 ++ [false])) UNK), (73, sv 2 p3.length ANY), (74, iv r90), (75, ag [iv p0, sv 0 p1.length ANY]), (76, fl 1 0 p2), (77, sv 7 1 1)]) (H78_6 p1 p2 p3 p0) [(8, 7, 8), (3, 6, 7), (2, 5, 6)] []) 3 (QJ.o { val := sv 8 (List.length (p2 ++ [true])) UNK, new := [.cells 4 (List.flatMap e4 (p2 ++ [true]))] } (q_appF (P := Try.prog) (base := 3) (hp := (H78_6 p1 p2 p3 p0)) (n := 8) (s := 1) (enc := e4) (ts := #[26, 26]) (e := 4) (bytes := 1) (z := .bool false) (w := sv 7 1 1) (ys2 := [true]) (t := 4) (b := 1) (L := p2) win_all (holds_acc (hp := (H78_6 p1 p2 p3 p0)) (b := 1) (T := 4) (enc := e4) (L := p2) (by kernel_rfl)) (by kernel_rfl) (litK_old (by decide)) (by kernel_rfl) (by kernel_rfl) (by kernel_rfl) (by kernel_rfl) (by kernel_rfl) (by kernel_rfl) (by kernel_rfl) hg89 (fun _ => rfl) (by simp only [List.length_cons, List.length_nil]; omega)) (QJ.rn (qs (st 82 [(2, sv 2 p3.length ANY), (3, pt 3 0), (12, fl 1 0 p2), (69, ag [iv p0, sv 0 p1.length ANY]), (70, fl 1 0 p2), (71, sv 5 1 1), (72, sv 6 (List.length (p2 ++ [false])) UNK), (73, sv 2 p3.length ANY), (74, iv r90), (75, ag [iv p0, sv 0 p1.length ANY]), (76, fl 1 0 p2), (77, sv 7 1 1), (78, sv 8 (List.length (p2 ++ [true])) UNK), (79, sv 2 p3.length ANY)]) (H78_1 p1 p2 p3 p0) [(9, 8, 9), (8, 7, 8), (3, 6, 7), (2, 5, 6)] []) 1 (QJ.dn ⟨rfl, ?_⟩)))))))
   exact SJ.o { val := iv r92, new := [] } (qOf_call (g := 78) (args := [ag [iv p0, sv 0 p1.length ANY], sv 8 (List.length (p2 ++ [true])) UNK, sv 2 p3.length ANY]) (by kernel_rfl) (lookC_skip (by intro _ ha hh; first | (exact absurd (congrArg List.length hh) (Nat.ne_of_beq_eq_false rfl)) | (have hq := h91; have hi := h93; clear hF; first | (exfalso; simp at ha; done) | ((try simp at ha); have hr := Option.some.inj (hq.symm.trans (Eq.trans (by first | rfl | (congr 1 <;> first | rfl | omega | simp_all)) hi)); subst hr; rfl))) lookC_hit)) SJ.la
 refine TS.rt ?_
 have hF := Option.some.inj hF
 subst hF
 exact ⟨.inr rfl, rfl, iv (w64 (r90 + r92)), by kernel_rfl, WkV.flat0 (by kernel_rfl) (Nat.le_of_ble_eq_true rfl)⟩
theorem C78 (k : Nat) : ∀ (p0 : Int) (p1 : (List ((Int × Bool) × (Int × Bool)))) (p2 : (List Bool)) (p3 : (List (Int × Bool))) (r : Int), F78 k p0 p1 p2 p3 = some r → PureSim Try.prog 78 [ag [iv p0, sv 0 p1.length ANY], sv 1 p2.length ANY, sv 2 p3.length ANY] (H78_20 p1 p2 p3) (V78 3 r) (N78 3 r) := by
 induction k with
 | zero => intro p0 p1 p2 p3 r hF; cases (show (none : Option Int) = some r from hF)
 | succ k ih =>
  intro p0 p1 p2 p3 r hF
  exact PureSim.of_Fin Try.func78 (c := c78) (by kernel_rfl) (by kernel_rfl) 3 rfl [0, 1, 2] [0, 1, 2] (by kernel_rfl) (B78 (F78 k) ih p0 p1 p2 p3 r hF)
noncomputable def c38 : Code := Try.f38.code
def H38_0 (p1 : (List ((Int × Bool) × (Int × Bool)))) (p2 : (List (Int × Bool))) (p0 : Int) : List Blk := [ab 86 e86 p1, ab 50 e50 p2, cl 24 [iv p0, sv 0 p1.length ANY], .dead, .dead, .map 50 (List.map (mEnc u50 u50) ([] : (List ((Int × Bool) × (Int × Bool))))), cl 126 [iv p0, sv 0 p1.length ANY, .map (some 5)]]
def H38_1 (p1 : (List ((Int × Bool) × (Int × Bool)))) (p2 : (List (Int × Bool))) (p0 : Int) (r12 : ((Int × Bool) × Bool × (List ((Int × Bool) × (Int × Bool))))) : List Blk := [ab 86 e86 p1, ab 50 e50 p2, cl 24 [iv p0, sv 0 p1.length ANY], .dead, .dead, mb 50 u50 u50 r12.2.2, cl 126 [iv p0, sv 0 p1.length ANY, .map (some 5)], .dead]
def H38_2 (p1 : (List ((Int × Bool) × (Int × Bool)))) (p2 : (List (Int × Bool))) (p0 : Int) (m17 : (Bool × (List ((Int × Bool) × (Int × Bool))))) : List Blk := [ab 86 e86 p1, ab 50 e50 p2, cl 24 [iv p0, sv 0 p1.length ANY], .dead, .dead, mb 50 u50 u50 m17.2, cl 126 [iv p0, sv 0 p1.length ANY, .map (some 5)], .dead]
def S38_3 (p2 : (List (Int × Bool))) (p0 : Int) (p1 : (List ((Int × Bool) × (Int × Bool)))) : CAct := (st 29 [(1, sv 1 p2.length ANY), (2, pt 2 0), (9, ag [iv p0, sv 0 p1.length ANY]), (10, sv 1 p2.length ANY)])
def H38_4 (p1 : (List ((Int × Bool) × (Int × Bool)))) (p2 : (List (Int × Bool))) (p0 : Int) : List Blk := [ab 86 e86 p1, ab 50 e50 p2, cl 24 [iv p0, sv 0 p1.length ANY], .dead, .dead, .dead, .dead, .dead]
def H38_5 (p1 : (List ((Int × Bool) × (Int × Bool)))) (p2 : (List (Int × Bool))) : List Blk := [ab 86 e86 p1, accB 4 (List.length ([] : List Bool)) (List.flatMap e4 ([] : List Bool)), ab 50 e50 p2]
def H38_6 (p1 : (List ((Int × Bool) × (Int × Bool)))) (p2 : (List (Int × Bool))) (p0 : Int) : List Blk := [ab 86 e86 p1, ab 50 e50 p2, cl 24 [iv p0, sv 0 p1.length ANY], .dead]
def H38_7 (p1 : (List ((Int × Bool) × (Int × Bool)))) (p2 : (List (Int × Bool))) : List Blk := [ab 86 e86 p1, ab 50 e50 p2, .dead, .dead, .dead, .dead, .dead, .dead]
def S38_8 (p0 : Int) (p1 : (List ((Int × Bool) × (Int × Bool)))) (p2 : (List (Int × Bool))) : CAct := (st 29 [(26, ag [iv p0, sv 0 p1.length ANY]), (27, sv 1 p2.length ANY)])
def H38_9 (p1 : (List ((Int × Bool) × (Int × Bool)))) (p2 : (List (Int × Bool))) : List Blk := [ab 86 e86 p1, ab 50 e50 p2, .dead, .dead]
def S38_10 (p2 : (List (Int × Bool))) (p0 : Int) : CAct := (st 29 [(1, sv 1 p2.length ANY), (2, pt 2 0), (22, .bool (decide (p0 > 14)))])
def H38_11 (p1 : (List ((Int × Bool) × (Int × Bool)))) (p2 : (List (Int × Bool))) : List Blk := [ab 86 e86 p1, ab 50 e50 p2]
noncomputable def c38f55 : Code := Try.f55.code
noncomputable def c38f66 : Code := Try.f66.code
def F38 (p0 : Int) (p1 : (List ((Int × Bool) × (Int × Bool)))) (p2 : (List (Int × Bool))) : Option (Int × Int) :=
 F26 p0 p1 >>= fun r1 =>
 if r1 != 0 then
  if r1 != 13 then
   some (0, r1)
  else
   if decide (p0 > 14) then
    some (0, 16)
   else
    F78 64 p0 p1 ([] : List Bool) p2 >>= fun r6 =>
    some (r6, 0)
 else
  if decide ((p2.length : Int) > 24) then
   some (0, 3)
  else
   F64 p0 p1 p2 >>= fun r9 =>
   if !r9 then
    some (0, 6)
   else
    F75 1 p0 p1 ([] : (List ((Int × Bool) × (Int × Bool)))) >>= fun r12 =>
    (
     if r12.2.1 then
      some (true, r12.2.2)
     else
      F57 1 p0 p1 r12.2.2 p2 >>= fun r15 =>
      some (!r15.1, r15.2)
    : Option (Bool × (List ((Int × Bool) × (Int × Bool))))) >>= fun m17 =>
    if m17.1 then
     if decide (p0 > 14) then
      some (0, 16)
     else
      F78 64 p0 p1 ([] : List Bool) p2 >>= fun r20 =>
      some (r20, 0)
    else
     if decide (p0 > 14) then
      some (0, 16)
     else
      F78 64 p0 p1 ([] : List Bool) p2 >>= fun r23 =>
      some (r23, 0)
def V38 (b : Nat) (r : (Int × Int)) : Value := .tuple ⟨[iv r.1, iv r.2]⟩
def N38 (b : Nat) (r : (Int × Int)) : List Blk := []
theorem B38 (p0 : Int) (p1 : (List ((Int × Bool) × (Int × Bool)))) (p2 : (List (Int × Bool))) (r : (Int × Int)) (hF : F38 p0 p1 p2 = some r) : TS Try.prog 2 2 c38 (st 29 [(0, ag [iv p0, sv 0 p1.length ANY]), (1, sv 1 p2.length ANY)]) (H38_11 p1 p2) (NX Try.prog 2 2 [] (FinP Try.prog Try.f38 2 (V38 2 r) (N38 2 r))) := by
 unfold F38 at hF
 refine TS.sq (TS.rg (TI.rn 3 [1, 2] [0, 1, 2] (st 29 [(1, sv 1 p2.length ANY), (2, pt 2 0)]) [ab 86 e86 p1, ab 50 e50 p2, cl 24 [iv p0, sv 0 p1.length ANY]] (TI.dn (NX.sq (TS.sq (TS.rg (TI.ra 2 [1, 2, 9, 10] (S38_3 p2 p0 p1) (TI.inline (g := 55) (args := [ag [iv p0, sv 0 p1.length ANY], sv 1 p2.length ANY]) (fn := Try.f55) (c := c38f55) (n := 3) (by kernel_rfl) (by kernel_rfl) (by kernel_rfl) (by kernel_rfl) (by kernel_rfl) [0, 1] (a2 := (st 40 [(0, ag [iv p0, sv 0 p1.length ANY]), (1, sv 1 p2.length ANY)])) (by kernel_rfl) ?_))))))))
 refine TS.sq (TS.rg (TI.rn 3 [1, 2] [0, 1, 2, 3] (st 40 [(1, sv 1 p2.length ANY), (2, pt 3 0)]) [ab 86 e86 p1, ab 50 e50 p2, cl 24 [iv p0, sv 0 p1.length ANY], cl 24 [iv p0, sv 0 p1.length ANY]] (TI.dn (NX.sq (TS.sq ?_)))))
 have hX := of_do hF
 clear hF
 obtain ⟨r1, h2, hF⟩ := hX
 refine TS.rg (TI.ra 1 [1, 2, 10] (st 40 [(1, sv 1 p2.length ANY), (2, pt 3 0), (10, ag [iv p0, sv 0 p1.length ANY])]) (TI.cp 26 [ag [iv p0, sv 0 p1.length ANY]] (iv r1) [] (PureSim.ren (hc := [ab 86 e86 p1]) (fun i => List.getD [(0, 0)] i (0, 0)) (C26 _ _ _ h2) (.ac (.nil _)) (.cons (Rn.agg' (.fl (.cons (Rn.any _ _ _ _ _ _ (Nat.le_of_ble_eq_true rfl) rfl rfl (by decide)) .nil))) .nil) (.flat (by kernel_rfl)) newflat_nil) (TI.ra 1 [1, 2, 6] (st 40 [(1, sv 1 p2.length ANY), (2, pt 3 0), (6, iv r1)]) (TI.dn (NX.sq (TS.sq (TS.bk 0 (TS.sq ?_))))))))
 refine TS.rg (TI.ra 3 [1, 2, 6, 12] (st 40 [(1, sv 1 p2.length ANY), (2, pt 3 0), (6, iv r1), (12, .bool (r1 != 0))]) (TI.dn (NX.sq ?_)))
 refine TS.cd (.tmp 12) (r1 != 0) (fun hc3 => ?_) (fun hc3 => ?_)
 · replace hF := of_pos hF hc3
   refine TS.sq (TS.rg (TI.rn 3 [4, 5] [0, 1, 2] (st 40 [(4, .pointer none), (5, iv r1)]) (H38_6 p1 p2 p0) (TI.dn (NX.sq (TS.rt (NX.bkR (NX.sqR ?_)))))))
   refine ⟨.inr rfl, rfl, .tuple ⟨[.pointer none, iv r1]⟩, .tuple ⟨[.pointer none, iv r1]⟩, (H38_6 p1 p2 p0), by kernel_rfl, WkV.refl, (TI.rn 0 [1, 2, 11] [0, 1, 2] (st 29 [(1, sv 1 p2.length ANY), (2, pt 2 0), (11, .tuple ⟨[.pointer none, iv r1]⟩)]) (H38_6 p1 p2 p0) (TI.ra 5 [1, 2, 7] (st 29 [(1, sv 1 p2.length ANY), (2, pt 2 0), (7, iv r1)]) (TI.dn (NX.sq (TS.sq (TS.bk 0 (TS.sq (TS.rg ?_))))))))⟩
   refine TI.ra 1 [1, 2, 7, 15] (st 29 [(1, sv 1 p2.length ANY), (2, pt 2 0), (7, iv r1), (15, iv r1)]) (TI.o { val := .bool true } (q_conv (e := r1 != 0) (b := true) (by kernel_rfl) hc3) [1, 2, 7, 16] [0, 1, 2] (st 29 [(1, sv 1 p2.length ANY), (2, pt 2 0), (7, iv r1), (16, .bool true)]) (H38_6 p1 p2 p0) (TI.ra 5 [1, 2, 7, 14] (st 29 [(1, sv 1 p2.length ANY), (2, pt 2 0), (7, iv r1), (14, .bool (r1 != 13))]) (TI.dn (NX.sq ?_))))
   refine TS.cd (.tmp 14) (r1 != 13) (fun hc4 => ?_) (fun hc4 => ?_)
   · replace hF := of_pos hF hc4
     refine TS.sq (TS.rg (TI.rn 3 [4, 5] [0, 1] (st 29 [(4, iv 0), (5, iv r1)]) (H38_9 p1 p2) (TI.dn (NX.sq (TS.rt (NX.bkR (NX.sqR ?_)))))))
     have hF := Option.some.inj hF
     subst hF
     exact ⟨.inr rfl, rfl, .tuple ⟨[iv 0, iv r1]⟩, by kernel_rfl, WkV.flat0 (by kernel_rfl) (Nat.le_of_ble_eq_true rfl)⟩
   replace hF := of_neg hF hc4
   refine TS.sq (TS.rg (TI.ra 4 [1, 2, 22] (S38_10 p2 p0) (TI.dn (NX.sq ?_))))
   refine TS.cd (.tmp 22) (decide (p0 > 14)) (fun hc5 => ?_) (fun hc5 => ?_)
   · replace hF := of_pos hF hc5
     refine TS.sq (TS.rg (TI.rn 2 [4, 5] [0, 1] (st 29 [(4, iv 0), (5, iv 16)]) (H38_9 p1 p2) (TI.dn (NX.sq (TS.rt (NX.bkR (NX.sqR ?_)))))))
     have hF := Option.some.inj hF
     subst hF
     exact ⟨.inr rfl, rfl, .tuple ⟨[iv 0, iv 16]⟩, by kernel_rfl, WkV.flat0 (by kernel_rfl) (Nat.le_of_ble_eq_true rfl)⟩
   replace hF := of_neg hF hc5
   refine TS.sk (NX.bk (NX.sq (TS.sq ?_)))
   have hX := of_do hF
   clear hF
   obtain ⟨r6, h7, hF⟩ := hX
   refine TS.rg (TI.rn 2 [26, 27] [0, 1] (S38_8 p0 p1 p2) (H38_9 p1 p2) (TI.cp 78 [ag [iv p0, sv 0 p1.length ANY], .slice none 0 0, sv 1 p2.length ANY] (iv r6) [] (PureSim.ren (hc := (H38_5 p1 p2)) (fun i => List.getD [(0, 0), (0, 0), (1, 0)] i (0, 0)) (C78 64 _ _ _ _ _ h7) (.ac (.cons At.accN (.ac (.nil _)))) (.cons (Rn.agg' (.fl (.cons (Rn.any _ _ _ _ _ _ (Nat.le_of_ble_eq_true rfl) rfl rfl (by decide)) .nil))) (.cons (Rn.anyN _ _ _ rfl (by decide)) (.cons (Rn.any _ _ _ _ _ _ (Nat.le_of_ble_eq_true rfl) rfl rfl (by decide)) .nil))) (.flat (by kernel_rfl)) newflat_nil) (TI.ra 2 [4, 5] (st 29 [(4, iv r6), (5, iv 0)]) (TI.dn (NX.sq (TS.rt ?_))))))
   have hF := Option.some.inj hF
   subst hF
   exact ⟨.inr rfl, rfl, .tuple ⟨[iv r6, iv 0]⟩, by kernel_rfl, WkV.flat0 (by kernel_rfl) (Nat.le_of_ble_eq_true rfl)⟩
 replace hF := of_neg hF hc3
 refine TS.sq (TS.rg (TI.ra 4 [1, 2, 16] (st 40 [(1, sv 1 p2.length ANY), (2, pt 3 0), (16, .bool (decide ((p2.length : Int) > 24)))]) (TI.dn (NX.sq ?_))))
 refine TS.cd (.tmp 16) (decide ((p2.length : Int) > 24)) (fun hc8 => ?_) (fun hc8 => ?_)
 · replace hF := of_pos hF hc8
   refine TS.sq (TS.rg (TI.rn 2 [4, 5] [0, 1, 2] (st 40 [(4, .pointer none), (5, iv 3)]) (H38_6 p1 p2 p0) (TI.dn (NX.sq (TS.rt (NX.bkR (NX.sqR ?_)))))))
   refine ⟨.inr rfl, rfl, .tuple ⟨[.pointer none, iv 3]⟩, .tuple ⟨[.pointer none, iv 3]⟩, (H38_6 p1 p2 p0), by kernel_rfl, WkV.refl, (TI.rn 0 [1, 2, 11] [0, 1, 2] (st 29 [(1, sv 1 p2.length ANY), (2, pt 2 0), (11, .tuple ⟨[.pointer none, iv 3]⟩)]) (H38_6 p1 p2 p0) (TI.ra 5 [1, 2, 7] (st 29 [(1, sv 1 p2.length ANY), (2, pt 2 0), (7, iv 3)]) (TI.dn (NX.sq (TS.sq (TS.bk 0 (TS.sq (TS.rg ?_))))))))⟩
   refine TI.ra 7 [1, 2, 7, 14] (st 29 [(1, sv 1 p2.length ANY), (2, pt 2 0), (7, iv 3), (14, .bool true)]) (TI.dn (NX.sq (TS.cdT (.tmp 14) (TS.sq (TS.rg (TI.rn 3 [4, 5] [0, 1] (st 29 [(4, iv 0), (5, iv 3)]) (H38_9 p1 p2) (TI.dn (NX.sq ?_))))))))
   refine TS.rt (NX.bkR (NX.sqR ?_))
   have hF := Option.some.inj hF
   subst hF
   exact ⟨.inr rfl, rfl, .tuple ⟨[iv 0, iv 3]⟩, by kernel_rfl, WkV.flat0 (by kernel_rfl) (Nat.le_of_ble_eq_true rfl)⟩
 replace hF := of_neg hF hc8
 refine TS.sq ?_
 have hX := of_do hF
 clear hF
 obtain ⟨r9, h10, hF⟩ := hX
 refine TS.rg (TI.ra 2 [1, 2, 21, 22] (st 40 [(1, sv 1 p2.length ANY), (2, pt 3 0), (21, ag [iv p0, sv 0 p1.length ANY]), (22, sv 1 p2.length ANY)]) (TI.cp 64 [ag [iv p0, sv 0 p1.length ANY], sv 1 p2.length ANY] (.bool r9) [] (PureSim.ren (hc := (H38_11 p1 p2)) (fun i => List.getD [(0, 0), (1, 0)] i (0, 0)) (C64 _ _ _ _ h10) (.ac (.ac (.nil _))) (.cons (Rn.agg' (.fl (.cons (Rn.any _ _ _ _ _ _ (Nat.le_of_ble_eq_true rfl) rfl rfl (by decide)) .nil))) (.cons (Rn.any _ _ _ _ _ _ (Nat.le_of_ble_eq_true rfl) rfl rfl (by decide)) .nil)) (.flat (by kernel_rfl)) newflat_nil) (TI.ra 2 [1, 2, 20] (st 40 [(1, sv 1 p2.length ANY), (2, pt 3 0), (20, .bool (!r9))]) (TI.dn (NX.sq ?_)))))
 refine TS.cd (.tmp 20) (!r9) (fun hc11 => ?_) (fun hc11 => ?_)
 · replace hF := of_pos hF hc11
   refine TS.sq (TS.rg (TI.rn 2 [4, 5] [0, 1, 2] (st 40 [(4, .pointer none), (5, iv 6)]) (H38_6 p1 p2 p0) (TI.dn (NX.sq (TS.rt (NX.bkR (NX.sqR ?_)))))))
   refine ⟨.inr rfl, rfl, .tuple ⟨[.pointer none, iv 6]⟩, .tuple ⟨[.pointer none, iv 6]⟩, (H38_6 p1 p2 p0), by kernel_rfl, WkV.refl, (TI.rn 0 [1, 2, 11] [0, 1, 2] (st 29 [(1, sv 1 p2.length ANY), (2, pt 2 0), (11, .tuple ⟨[.pointer none, iv 6]⟩)]) (H38_6 p1 p2 p0) (TI.ra 5 [1, 2, 7] (st 29 [(1, sv 1 p2.length ANY), (2, pt 2 0), (7, iv 6)]) (TI.dn (NX.sq (TS.sq (TS.bk 0 (TS.sq (TS.rg ?_))))))))⟩
   refine TI.ra 7 [1, 2, 7, 14] (st 29 [(1, sv 1 p2.length ANY), (2, pt 2 0), (7, iv 6), (14, .bool true)]) (TI.dn (NX.sq (TS.cdT (.tmp 14) (TS.sq (TS.rg (TI.rn 3 [4, 5] [0, 1] (st 29 [(4, iv 0), (5, iv 6)]) (H38_9 p1 p2) (TI.dn (NX.sq ?_))))))))
   refine TS.rt (NX.bkR (NX.sqR ?_))
   have hF := Option.some.inj hF
   subst hF
   exact ⟨.inr rfl, rfl, .tuple ⟨[iv 0, iv 6]⟩, by kernel_rfl, WkV.flat0 (by kernel_rfl) (Nat.le_of_ble_eq_true rfl)⟩
 replace hF := of_neg hF hc11
 refine TS.sk (NX.bk (NX.sq (TS.sq (TS.rg (TI.rn 1 [1, 25] [0, 1, 2] (st 40 [(1, sv 1 p2.length ANY), (25, ag [iv p0, sv 0 p1.length ANY])]) (H38_6 p1 p2 p0) (TI.inline (g := 66) (args := [ag [iv p0, sv 0 p1.length ANY]]) (fn := Try.f66) (c := c38f66) (n := 4) (by kernel_rfl) (by kernel_rfl) (by kernel_rfl) (by kernel_rfl) (by kernel_rfl) [0] (a2 := (st 7 [(0, ag [iv p0, sv 0 p1.length ANY])])) (by kernel_rfl) (TS.sq (TS.rg ?_))))))))
 refine TI.rn 2 [1] [0, 1, 2, 4] (st 7 [(1, pt 4 0)]) [ab 86 e86 p1, ab 50 e50 p2, cl 24 [iv p0, sv 0 p1.length ANY], .dead, cl 24 [iv p0, sv 0 p1.length ANY]] (TI.dn (NX.sq (TS.sq (TS.rg (TI.rn 5 [2] [0, 1, 2, 5, 6] (st 7 [(2, pt 6 0)]) (H38_0 p1 p2 p0) (TI.dn (NX.sq (TS.rt ?_))))))))
 refine ⟨.inr rfl, rfl, pt 6 0, pt 6 0, (H38_0 p1 p2 p0), by kernel_rfl, WkV.refl, (TI.rn 0 [1, 26] [0, 1, 2, 5, 6] (st 40 [(1, sv 1 p2.length ANY), (26, pt 6 0)]) (H38_0 p1 p2 p0) (TI.ra 1 [1, 7] (st 40 [(1, sv 1 p2.length ANY), (7, pt 6 0)]) (TI.dn (NX.sq (TS.sq (TS.sq ?_))))))⟩
 have hX := of_do hF
 clear hF
 obtain ⟨r12, h13, hF⟩ := hX
 refine TS.rg (TI.ra 1 [1, 7, 28] (st 40 [(1, sv 1 p2.length ANY), (7, pt 6 0), (28, pt 6 0)]) (TI.icallM (g := 75) (args := [pt 6 0]) (v := .tuple ⟨[ag [iv r12.1.1, .bool r12.1.2], .bool r12.2.1]⟩) (by kernel_rfl) (ImpSim.frameB (n := 3) (h := (H38_0 p1 p2 p0)) (ro := [cl 126 [iv p0, sv 1 p1.length ANY, .map (some 2)], ab 86 e86 p1]) (wr := [.map 50 (List.map (mEnc u50 u50) ([] : (List ((Int × Bool) × (Int × Bool)))))]) (wr' := [mb 50 u50 u50 r12.2.2]) (fun i => List.getD [(6, 0), (0, 0), (5, 0)] i (0, 0)) (C75 1 _ _ _ _ h13) rfl rfl (.cons (At.blk (b1 := cl 126 [iv p0, sv 0 p1.length ANY, .map (some 5)]) (by kernel_rfl) (RnB.lit (.fl (.cons (Rn.any _ _ _ _ _ _ (Nat.le_of_ble_eq_true rfl) rfl rfl (by decide)) (.cons (Rn.map _ (Nat.le_of_ble_eq_true rfl)) .nil))))) (.ac (.cons (At.blk (by kernel_rfl) (RnB.map _ _)) (.nil _)))) (by kernel_rfl) (by kernel_rfl) (by kernel_rfl) (.pp .nil) (by kernel_rfl)) [1, 7, 29] [0, 1, 2, 5, 6] (a2 := (st 40 [(1, sv 1 p2.length ANY), (7, pt 6 0), (29, .tuple ⟨[ag [iv r12.1.1, .bool r12.1.2], .bool r12.2.1]⟩)])) (h2 := [ab 86 e86 p1, ab 50 e50 p2, cl 24 [iv p0, sv 0 p1.length ANY], .dead, .dead, mb 50 u50 u50 r12.2.2, cl 126 [iv p0, sv 0 p1.length ANY, .map (some 5)]]) (by kernel_rfl) (TI.rn 6 [1, 7, 9] [0, 1, 2, 5, 6] (st 40 [(1, sv 1 p2.length ANY), (7, pt 6 0), (9, .bool r12.2.1)]) (H38_1 p1 p2 p0 r12) (TI.dn (NX.sq (TS.sq ?_))))))
 have hX := of_do hF
 clear hF
 obtain ⟨m17, hm25, hF⟩ := hX
 have hK : NX Try.prog 2 3 [.sq c38f55.s2.s2.s2.s2.s1.s2.s2, .sq c38f55.s2.s2.s2.s2.s2] (InlP Try.prog 2 3 Try.f55 (fun v2 h2 => TI Try.prog 2 2 c38.s2.s1.rops 3 (putAt c38.s2.s1.rops 2 (S38_3 p2 p0 p1) v2) h2 (NX Try.prog 2 2 [.sq c38.s2.s2] (FinP Try.prog Try.f38 2 (V38 2 r) (N38 2 r)) .normal))) .normal (st 40 [(7, pt 6 0), (38, .bool m17.1)]) (H38_2 p1 p2 p0 m17) := by
  refine NX.sq ?_
  refine TS.cd (.tmp 38) m17.1 (fun hc18 => ?_) (fun hc18 => ?_)
  · replace hF := of_pos hF hc18
    refine TS.sq (TS.rg (TI.rn 2 [4, 5] [0, 1, 2] (st 40 [(4, .pointer none), (5, iv 13)]) (H38_4 p1 p2 p0) (TI.dn (NX.sq (TS.rt (NX.sqR ?_))))))
    refine ⟨.inr rfl, rfl, .tuple ⟨[.pointer none, iv 13]⟩, .tuple ⟨[.pointer none, iv 13]⟩, (H38_4 p1 p2 p0), by kernel_rfl, WkV.refl, (TI.rn 0 [1, 2, 11] [0, 1, 2] (st 29 [(1, sv 1 p2.length ANY), (2, pt 2 0), (11, .tuple ⟨[.pointer none, iv 13]⟩)]) (H38_4 p1 p2 p0) (TI.ra 5 [1, 2, 7] (st 29 [(1, sv 1 p2.length ANY), (2, pt 2 0), (7, iv 13)]) (TI.dn (NX.sq (TS.sq (TS.bk 0 (TS.sq (TS.rg ?_))))))))⟩
    refine TI.ra 7 [1, 2, 7, 14] (st 29 [(1, sv 1 p2.length ANY), (2, pt 2 0), (7, iv 13), (14, .bool false)]) (TI.dn (NX.sq (TS.cdF (.tmp 14) (TS.sq (TS.rg (TI.ra 4 [1, 2, 22] (S38_10 p2 p0) (TI.dn (NX.sq ?_))))))))
    refine TS.cd (.tmp 22) (decide (p0 > 14)) (fun hc19 => ?_) (fun hc19 => ?_)
    · replace hF := of_pos hF hc19
      refine TS.sq (TS.rg (TI.rn 2 [4, 5] [0, 1] (st 29 [(4, iv 0), (5, iv 16)]) (H38_7 p1 p2) (TI.dn (NX.sq (TS.rt (NX.bkR (NX.sqR ?_)))))))
      have hF := Option.some.inj hF
      subst hF
      exact ⟨.inr rfl, rfl, .tuple ⟨[iv 0, iv 16]⟩, by kernel_rfl, WkV.flat0 (by kernel_rfl) (Nat.le_of_ble_eq_true rfl)⟩
    replace hF := of_neg hF hc19
    refine TS.sk (NX.bk (NX.sq (TS.sq ?_)))
    have hX := of_do hF
    clear hF
    obtain ⟨r20, h21, hF⟩ := hX
    refine TS.rg (TI.rn 2 [26, 27] [0, 1] (S38_8 p0 p1 p2) (H38_7 p1 p2) (TI.cp 78 [ag [iv p0, sv 0 p1.length ANY], .slice none 0 0, sv 1 p2.length ANY] (iv r20) [] (PureSim.ren (hc := (H38_5 p1 p2)) (fun i => List.getD [(0, 0), (0, 0), (1, 0)] i (0, 0)) (C78 64 _ _ _ _ _ h21) (.ac (.cons At.accN (.ac (.nil _)))) (.cons (Rn.agg' (.fl (.cons (Rn.any _ _ _ _ _ _ (Nat.le_of_ble_eq_true rfl) rfl rfl (by decide)) .nil))) (.cons (Rn.anyN _ _ _ rfl (by decide)) (.cons (Rn.any _ _ _ _ _ _ (Nat.le_of_ble_eq_true rfl) rfl rfl (by decide)) .nil))) (.flat (by kernel_rfl)) newflat_nil) (TI.ra 2 [4, 5] (st 29 [(4, iv r20), (5, iv 0)]) (TI.dn (NX.sq (TS.rt ?_))))))
    have hF := Option.some.inj hF
    subst hF
    exact ⟨.inr rfl, rfl, .tuple ⟨[iv r20, iv 0]⟩, by kernel_rfl, WkV.flat0 (by kernel_rfl) (Nat.le_of_ble_eq_true rfl)⟩
  replace hF := of_neg hF hc18
  refine TS.sk (NX.sq (TS.sq (TS.rg (TI.ra 3 [4, 5] (st 40 [(4, pt 6 0), (5, iv 0)]) (TI.dn (NX.sq (TS.rt ?_)))))))
  refine ⟨.inr rfl, rfl, .tuple ⟨[pt 6 0, iv 0]⟩, .tuple ⟨[pt 6 0, iv 0]⟩, (H38_2 p1 p2 p0 m17), by kernel_rfl, WkV.refl, (TI.rn 0 [1, 2, 11] [0, 1, 2, 5, 6] (st 29 [(1, sv 1 p2.length ANY), (2, pt 2 0), (11, .tuple ⟨[pt 6 0, iv 0]⟩)]) (H38_2 p1 p2 p0 m17) (TI.rn 5 [1, 2, 7] [0, 1, 2] (st 29 [(1, sv 1 p2.length ANY), (2, pt 2 0), (7, iv 0)]) (H38_4 p1 p2 p0) (TI.dn (NX.sq (TS.sq (TS.bk 0 (TS.sq (TS.rg ?_))))))))⟩
  refine TI.ra 7 [1, 2, 7, 14] (st 29 [(1, sv 1 p2.length ANY), (2, pt 2 0), (7, iv 0), (14, .bool false)]) (TI.dn (NX.sq (TS.cdF (.tmp 14) (TS.sq (TS.rg (TI.ra 4 [1, 2, 22] (S38_10 p2 p0) (TI.dn (NX.sq ?_))))))))
  refine TS.cd (.tmp 22) (decide (p0 > 14)) (fun hc22 => ?_) (fun hc22 => ?_)
  · replace hF := of_pos hF hc22
    refine TS.sq (TS.rg (TI.rn 2 [4, 5] [0, 1] (st 29 [(4, iv 0), (5, iv 16)]) (H38_7 p1 p2) (TI.dn (NX.sq (TS.rt (NX.bkR (NX.sqR ?_)))))))
    have hF := Option.some.inj hF
    subst hF
    exact ⟨.inr rfl, rfl, .tuple ⟨[iv 0, iv 16]⟩, by kernel_rfl, WkV.flat0 (by kernel_rfl) (Nat.le_of_ble_eq_true rfl)⟩
  replace hF := of_neg hF hc22
  refine TS.sk (NX.bk (NX.sq (TS.sq ?_)))
  have hX := of_do hF
  clear hF
  obtain ⟨r23, h24, hF⟩ := hX
  refine TS.rg (TI.rn 2 [26, 27] [0, 1] (S38_8 p0 p1 p2) (H38_7 p1 p2) (TI.cp 78 [ag [iv p0, sv 0 p1.length ANY], .slice none 0 0, sv 1 p2.length ANY] (iv r23) [] (PureSim.ren (hc := (H38_5 p1 p2)) (fun i => List.getD [(0, 0), (0, 0), (1, 0)] i (0, 0)) (C78 64 _ _ _ _ _ h24) (.ac (.cons At.accN (.ac (.nil _)))) (.cons (Rn.agg' (.fl (.cons (Rn.any _ _ _ _ _ _ (Nat.le_of_ble_eq_true rfl) rfl rfl (by decide)) .nil))) (.cons (Rn.anyN _ _ _ rfl (by decide)) (.cons (Rn.any _ _ _ _ _ _ (Nat.le_of_ble_eq_true rfl) rfl rfl (by decide)) .nil))) (.flat (by kernel_rfl)) newflat_nil) (TI.ra 2 [4, 5] (st 29 [(4, iv r23), (5, iv 0)]) (TI.dn (NX.sq (TS.rt ?_))))))
  have hF := Option.some.inj hF
  subst hF
  exact ⟨.inr rfl, rfl, .tuple ⟨[iv r23, iv 0]⟩, by kernel_rfl, WkV.flat0 (by kernel_rfl) (Nat.le_of_ble_eq_true rfl)⟩
 rcases Bool.eq_false_or_eq_true (r12.2.1) with hc14 | hc14
 · replace hm25 := of_pos hm25 hc14
   have hm25 := Option.some.inj hm25
   subst hm25
   exact TS.rg (TI.o { val := .bool true } (q_conv (e := r12.2.1) (b := true) (by kernel_rfl) hc14) [1, 7, 32] [0, 1, 2, 5, 6] (st 40 [(1, sv 1 p2.length ANY), (7, pt 6 0), (32, .bool true)]) (H38_1 p1 p2 p0 r12) (TI.ra 6 [7, 38] (st 40 [(7, pt 6 0), (38, .bool true)]) (TI.dn hK)))
 replace hm25 := of_neg hm25 hc14
 have hX := of_do hm25
 clear hm25
 obtain ⟨r15, h16, hm25⟩ := hX
 have hm25 := Option.some.inj hm25
 subst hm25
 exact TS.rg (TI.o { val := .bool false } (q_conv (e := r12.2.1) (b := false) (by kernel_rfl) hc14) [1, 7, 32] [0, 1, 2, 5, 6] (st 40 [(1, sv 1 p2.length ANY), (7, pt 6 0), (32, .bool false)]) (H38_1 p1 p2 p0 r12) (TI.ra 3 [7, 33, 34, 35] (st 40 [(7, pt 6 0), (33, .bool false), (34, pt 6 0), (35, sv 1 p2.length ANY)]) (TI.icallM (g := 57) (args := [pt 6 0, sv 1 p2.length ANY]) (v := .bool r15.1) (by kernel_rfl) (ImpSim.frameB (n := 4) (h := (H38_1 p1 p2 p0 r12)) (ro := [cl 126 [iv p0, sv 1 p1.length ANY, .map (some 3)], ab 86 e86 p1, ab 50 e50 p2]) (wr := [mb 50 u50 u50 r12.2.2]) (wr' := [mb 50 u50 u50 r15.2]) (fun i => List.getD [(6, 0), (0, 0), (1, 0), (5, 0)] i (0, 0)) (C57 1 _ _ _ _ _ h16) rfl rfl (.cons (At.blk (b1 := cl 126 [iv p0, sv 0 p1.length ANY, .map (some 5)]) (by kernel_rfl) (RnB.lit (.fl (.cons (Rn.any _ _ _ _ _ _ (Nat.le_of_ble_eq_true rfl) rfl rfl (by decide)) (.cons (Rn.map _ (Nat.le_of_ble_eq_true rfl)) .nil))))) (.ac (.ac (.cons (At.blk (by kernel_rfl) (RnB.map _ _)) (.nil _))))) (by kernel_rfl) (by kernel_rfl) (by kernel_rfl) (.pp (.cons (Rn.any _ _ _ _ _ _ (Nat.le_of_ble_eq_true rfl) rfl rfl (by decide)) .nil)) (by kernel_rfl)) [7, 33, 36] [0, 1, 2, 5, 6] (a2 := (st 40 [(7, pt 6 0), (33, .bool false), (36, .bool r15.1)])) (h2 := [ab 86 e86 p1, ab 50 e50 p2, cl 24 [iv p0, sv 0 p1.length ANY], .dead, .dead, mb 50 u50 u50 r15.2, cl 126 [iv p0, sv 0 p1.length ANY, .map (some 5)], .dead]) (by kernel_rfl) (TI.ra 2 [7, 38] (st 40 [(7, pt 6 0), (38, .bool (!r15.1))]) (TI.dn hK)))))
theorem C38 (p0 : Int) (p1 : (List ((Int × Bool) × (Int × Bool)))) (p2 : (List (Int × Bool))) (r : (Int × Int)) (hF : F38 p0 p1 p2 = some r) : PureSim Try.prog 38 [ag [iv p0, sv 0 p1.length ANY], sv 1 p2.length ANY] (H38_11 p1 p2) (V38 2 r) (N38 2 r) :=
 PureSim.of_Fin Try.func38 (c := c38) (by kernel_rfl) (by kernel_rfl) 2 rfl [0, 1] [0, 1] (by kernel_rfl) (B38 p0 p1 p2 r hF)
end
end Go.Proofs.Ytiaippkjgmccoaa
