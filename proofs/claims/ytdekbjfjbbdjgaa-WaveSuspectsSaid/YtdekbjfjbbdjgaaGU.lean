/- What functions of the program compute, and that they do. -/
import Derived.Test.YtdekbjfjbbdjgaaGT
set_option linter.unusedVariables false
set_option linter.unusedSimpArgs false
set_option maxRecDepth 100000
set_option maxHeartbeats 4000000
namespace Go.Proofs.Ytdekbjfjbbdjgaa
open Go Go.Cl
noncomputable section
noncomputable def c53 : Code := Try.f53.code
def H53_0 (p0 p1 : List I2) (o4 : Int) : List Blk := [cl 22 [sv 1 p0.length ANY, sv 2 p1.length ANY], ab 57 e57 p0, ab 57 e57 p1, .dead, .cells 57 (List.flatMap e57 ((List.take (Int.toNat 0) (List.replicate (Int.toNat (w64 (o4 - 0))) ((0, 0) : I2))) ++ p0))]
def H53_1 (p0 p1 : List I2) (o4 : Int) : List Blk := [cl 22 [sv 1 p0.length ANY, sv 2 p1.length ANY], ab 57 e57 p0, ab 57 e57 p1, .cells 57 (List.flatMap e57 (List.replicate (Int.toNat (w64 (o4 - 0))) ((0, 0) : I2)))]
def H53_2 (p0 p1 : List I2) : List Blk := [cl 22 [sv 1 p0.length ANY, sv 2 p1.length ANY], ab 57 e57 p0, ab 57 e57 p1, ab 57 e57 p0]
def H53_3 (p0 p1 : List I2) : List Blk := [cl 22 [sv 1 p0.length ANY, sv 2 p1.length ANY], ab 57 e57 p0, ab 57 e57 p1]
def S53_4 (p0 : List I2) : CAct := (st 36 [(0, sv 0 2 2), (3, iv (w64 (0 + (p0.length : Int)))), (9, sv 0 2 2), (10, iv 2), (11, iv 0)])
def S53_5 (o4 : Int) : CAct := (st 36 [(0, sv 0 2 2), (3, iv o4), (9, sv 0 2 2), (10, iv 2), (11, iv 1)])
noncomputable def c53f62 : Code := Try.f62.code
def F53 (p0 p1 : List I2) : Option (List I2) :=
 (
  if decide ((w64 (0 + (p0.length : Int))) < 0) then
   none
  else
   some ()
 : Option Unit) >>= fun m2 =>
 some (w64 ((w64 (0 + (p0.length : Int))) + (p1.length : Int))) >>= fun o4 =>
 (
  if decide (o4 < 0) then
   none
  else
   some ()
 : Option Unit) >>= fun m7 =>
 (
  if decide (o4 < 0) then
   none
  else
   some ()
 : Option Unit) >>= fun m10 =>
 if decide ((w64 (o4 - 0)) > 0) then
  if (0 : Int) < w64 (o4 - 0) ∧ w64 (o4 - 0) ≤ 1000000000 then
   if (0 : Int) ≤ 0 ∧ 0 ≤ (List.length (List.replicate (Int.toNat (w64 (o4 - 0))) ((0, 0) : I2)) : Int) then
    if List.length (List.take (Int.toNat 0) (List.replicate (Int.toNat (w64 (o4 - 0))) ((0, 0) : I2))) ≤ 1000000000 then
     if List.length p0 ≤ 1000000000 then
      if List.length ((List.take (Int.toNat 0) (List.replicate (Int.toNat (w64 (o4 - 0))) ((0, 0) : I2))) ++ p0) ≤ 1000000000 then
       if List.length p1 ≤ 1000000000 then
        some (((List.take (Int.toNat 0) (List.replicate (Int.toNat (w64 (o4 - 0))) ((0, 0) : I2))) ++ p0) ++ p1)
       else none
      else none
     else none
    else none
   else none
  else none
 else
  if List.length p0 ≤ 1000000000 then
   if List.length p1 ≤ 1000000000 then
    some (p0 ++ p1)
   else none
  else none
def V53 (b : Nat) (r : List I2) : Value := .slice (some ⟨b + 0, 0, none⟩) r.length ANY
def N53 (b : Nat) (r : List I2) : List Blk := [ab 57 e57 r]
theorem B53 (p0 p1 r : List I2) (hF : F53 p0 p1 = some r) : TS Try.prog 3 3 c53 (st 36 [(0, sv 0 2 2)]) (H53_3 p0 p1) (NX Try.prog 3 3 [] (FinP Try.prog Try.f53 3 (V53 3 r) (N53 3 r))) := by
 unfold F53 at hF
 refine TS.sq (TS.rg (TI.ra 1 [0] (st 36 [(0, sv 0 2 2)]) (TI.dn (NX.sq (TS.sq (TS.rg (TI.ra 1 [0, 3] (st 36 [(0, sv 0 2 2), (3, iv 0)]) (TI.dn ?_))))))))
 refine NX.sq (TS.sq (TS.sq (TS.rg (TI.ra 3 [0, 3, 9, 10, 11] (st 36 [(0, sv 0 2 2), (3, iv 0), (9, sv 0 2 2), (10, iv 2), (11, iv 0)]) (TI.dn (NX.sq (TS.bk 0 (TS.lp ?_))))))))
 refine TL.round (TS.sq (TS.rg (TI.ra 1 [0, 3, 9, 10, 11, 12] (st 36 [(0, sv 0 2 2), (3, iv 0), (9, sv 0 2 2), (10, iv 2), (11, iv 0), (12, .bool true)]) (TI.dn (NX.sq (TS.sq (TS.cdT (.tmp 12) (TS.sk ?_))))))))
 refine NX.sq (TS.sq (TS.bk 1 (TS.sq (TS.rg (TI.ra 3 [0, 3, 5, 9, 10, 11] (st 36 [(0, sv 0 2 2), (3, iv 0), (5, sv 1 p0.length ANY), (9, sv 0 2 2), (10, iv 2), (11, iv 0)]) (TI.dn (NX.sq (TS.sq ?_))))))))
 refine TS.rg (TI.ra 5 [0, 3, 9, 10, 11] (S53_4 p0) (TI.dn (NX.sq (TS.sq (TS.rg (TI.ra 2 [0, 3, 9, 10, 11, 20] (st 36 [(0, sv 0 2 2), (3, iv (w64 (0 + (p0.length : Int)))), (9, sv 0 2 2), (10, iv 2), (11, iv 0), (20, .bool (decide ((w64 (0 + (p0.length : Int))) < 0)))]) (TI.dn (NX.sq ?_))))))))
 obtain ⟨m2, hm3, hF⟩ := of_do hF
 have hK : NX Try.prog 3 3 [.bk 1, .sq c53.s2.s2.s1.s2.bd.bd.s2.s2.s2] (Rd Try.prog 3 3 c53.s2.s2.s1.s2.bd.bd (NX Try.prog 3 3 [.bk 0, .sq c53.s2.s2.s2] (FinP Try.prog Try.f53 3 (V53 3 r) (N53 3 r)))) .normal (S53_4 p0) (H53_3 p0 p1) := by
  refine NX.bk (NX.sq (TS.rg (TI.ra 2 [0, 3, 9, 10, 11] (st 36 [(0, sv 0 2 2), (3, iv (w64 (0 + (p0.length : Int)))), (9, sv 0 2 2), (10, iv 2), (11, iv 1)]) (TI.dn ?_))))
  refine Rd.again Wk.refl (TL.round (TS.sq (TS.rg (TI.ra 1 [0, 3, 9, 10, 11, 12] (st 36 [(0, sv 0 2 2), (3, iv (w64 (0 + (p0.length : Int)))), (9, sv 0 2 2), (10, iv 2), (11, iv 1), (12, .bool true)]) (TI.dn (NX.sq (TS.sq (TS.cdT (.tmp 12) (TS.sk ?_)))))))))
  refine NX.sq (TS.sq (TS.bk 1 (TS.sq (TS.rg (TI.ra 3 [0, 3, 5, 9, 10, 11] (st 36 [(0, sv 0 2 2), (3, iv (w64 (0 + (p0.length : Int)))), (5, sv 2 p1.length ANY), (9, sv 0 2 2), (10, iv 2), (11, iv 1)]) (TI.dn (NX.sq (TS.sq ?_))))))))
  obtain ⟨o4, h5, hF⟩ := of_do hF
  replace h5 := sj h5
  refine TS.rg (TI.ra 3 [0, 9, 10, 11, 15, 17] (st 36 [(0, sv 0 2 2), (9, sv 0 2 2), (10, iv 2), (11, iv 1), (15, iv (w64 (0 + (p0.length : Int)))), (17, iv (p1.length : Int))]) (TI.o { val := iv o4 } (q_convI (e := w64 ((w64 (0 + (p0.length : Int))) + (p1.length : Int))) (y := o4) (by kernel_rfl) h5) [0, 9, 10, 11, 18] [0, 1, 2] (st 36 [(0, sv 0 2 2), (9, sv 0 2 2), (10, iv 2), (11, iv 1), (18, iv o4)]) (H53_3 p0 p1) (TI.ra 1 [0, 3, 9, 10, 11] (S53_5 o4) (TI.dn (NX.sq (TS.sq (TS.rg (TI.ra 2 [0, 3, 9, 10, 11, 20] (st 36 [(0, sv 0 2 2), (3, iv o4), (9, sv 0 2 2), (10, iv 2), (11, iv 1), (20, .bool (decide (o4 < 0)))]) ?_))))))))
  refine TI.dn (NX.sq ?_)
  obtain ⟨m7, hm8, hF⟩ := of_do hF
  have hK : NX Try.prog 3 3 [.bk 1, .sq c53.s2.s2.s1.s2.bd.bd.s2.s2.s2] (Rd Try.prog 3 3 c53.s2.s2.s1.s2.bd.bd (NX Try.prog 3 3 [.bk 0, .sq c53.s2.s2.s2] (FinP Try.prog Try.f53 3 (V53 3 r) (N53 3 r)))) .normal (S53_5 o4) (H53_3 p0 p1) := by
   refine NX.bk (NX.sq (TS.rg (TI.ra 2 [0, 3, 9, 10, 11] (st 36 [(0, sv 0 2 2), (3, iv o4), (9, sv 0 2 2), (10, iv 2), (11, iv 2)]) (TI.dn ?_))))
   refine Rd.again Wk.refl (TL.round (TS.sq (TS.rg (TI.ra 1 [0, 3, 9, 10, 11, 12] (st 36 [(0, sv 0 2 2), (3, iv o4), (9, sv 0 2 2), (10, iv 2), (11, iv 2), (12, .bool false)]) (TI.dn (NX.sq (TS.sq (TS.cdF (.tmp 12) (TS.ex 0 ?_)))))))))
   refine NX.sqX ?_
   refine Rd.out (by simp) (NX.bkX (NX.sq (TS.sq (TS.rg (TI.ra 1 [0, 23] (st 36 [(0, sv 0 2 2), (23, iv o4)]) (TI.inline (g := 62) (args := [.slice none 0 0, iv o4]) (fn := Try.f62) (c := c53f62) (n := 3) (by kernel_rfl) (by kernel_rfl) (by kernel_rfl) (by kernel_rfl) (by kernel_rfl) [0, 1] (a2 := (st 27 [(0, .slice none 0 0), (1, iv o4)])) (by kernel_rfl) (TS.sq (TS.rg ?_))))))))
   refine TI.ra 1 [0, 1] (st 27 [(0, .slice none 0 0), (1, iv o4)]) (TI.dn (NX.sq (TS.sq (TS.sq (TS.rg (TI.ra 2 [0, 1, 6] (st 27 [(0, .slice none 0 0), (1, iv o4), (6, .bool (decide (o4 < 0)))]) (TI.dn (NX.sq ?_))))))))
   obtain ⟨m10, hm11, hF⟩ := of_do hF
   have hK : NX Try.prog 3 3 [.sq c53f62.s2.s2] (InlP Try.prog 3 3 Try.f62 (fun v2 h2 => TI Try.prog 3 3 c53.s2.s2.s2.s1.rops 2 (putAt c53.s2.s2.s2.s1.rops 1 (st 36 [(0, sv 0 2 2), (23, iv o4)]) v2) h2 (NX Try.prog 3 3 [.sq c53.s2.s2.s2.s2] (FinP Try.prog Try.f53 3 (V53 3 r) (N53 3 r)) .normal))) .normal (st 27 [(0, .slice none 0 0), (1, iv o4)]) (H53_3 p0 p1) := by
    refine NX.sq (TS.sq (TS.sq (TS.rg (TI.ra 8 [0, 1] (st 27 [(0, .slice none 0 0), (1, iv (w64 (o4 - 0)))]) (TI.dn (NX.sq (TS.sq (TS.rg ?_))))))))
    refine TI.ra 2 [0, 1, 16] (st 27 [(0, .slice none 0 0), (1, iv (w64 (o4 - 0))), (16, .bool (decide ((w64 (o4 - 0)) > 0)))]) (TI.dn (NX.sq ?_))
    refine TS.cd (.tmp 16) (decide ((w64 (o4 - 0)) > 0)) (fun hc16 => ?_) (fun hc16 => ?_)
    · replace hF := of_pos hF hc16
      obtain ⟨hg17, hF⟩ := of_guard hF
      obtain ⟨hg18, hF⟩ := of_guard hF
      refine TS.rg (TI.ra 5 [0, 20, 21] (st 27 [(0, .slice none 0 0), (20, .slice none 0 0), (21, iv (w64 (o4 - 0)))]) (TI.o { val := sv 3 (List.length (List.replicate (Int.toNat (w64 (o4 - 0))) ((0, 0) : I2))) UNK, new := [.cells 57 (List.flatMap e57 (List.replicate (Int.toNat (w64 (o4 - 0))) ((0, 0) : I2)))] } (q_appZ (P := Try.prog) (base := 3) (hp := (H53_3 p0 p1)) (n := 3) (s := 2) (enc := e57) (ts := #[22, 3]) (e := 57) (bytes := 16) (z := ag [iv 0, iv 0]) (v := w64 (o4 - 0)) ((0, 0) : I2) (by kernel_rfl) (by kernel_rfl) (by kernel_rfl) (by kernel_rfl) (by kernel_rfl) (by kernel_rfl) (by kernel_rfl) rfl hg17.1 hg17.2 (by decide)) [0, 22] [0, 1, 2, 3] (st 27 [(0, .slice none 0 0), (22, sv 3 (List.length (List.replicate (Int.toNat (w64 (o4 - 0))) ((0, 0) : I2))) UNK)]) (H53_1 p0 p1 o4) (TI.ra 2 [22, 24] (st 27 [(22, sv 3 (List.length (List.replicate (Int.toNat (w64 (o4 - 0))) ((0, 0) : I2))) UNK), (24, iv 0)]) (TI.o { val := sv 3 (List.length (List.take (Int.toNat 0) (List.replicate (Int.toNat (w64 (o4 - 0))) ((0, 0) : I2)))) UNK } (q_slUhi (P := Try.prog) (t := 22) (e := 57) (s := 2) (b := 3) (off := 0) (ys := List.replicate (Int.toNat (w64 (o4 - 0))) ((0, 0) : I2)) (k := .i64) (v := 0) (by kernel_rfl) (by kernel_rfl) (by kernel_rfl) hg18) [25] [0, 1, 2, 3] (st 27 [(25, sv 3 (List.length (List.take (Int.toNat 0) (List.replicate (Int.toNat (w64 (o4 - 0))) ((0, 0) : I2)))) UNK)]) (H53_1 p0 p1 o4) (TI.ra 1 [0] (st 27 [(0, sv 3 (List.length (List.take (Int.toNat 0) (List.replicate (Int.toNat (w64 (o4 - 0))) ((0, 0) : I2)))) UNK)]) (TI.dn (NX.sq (TS.sq ?_))))))))
      refine TS.rg (TI.ra 2 [4] (st 27 [(4, sv 3 (List.length (List.take (Int.toNat 0) (List.replicate (Int.toNat (w64 (o4 - 0))) ((0, 0) : I2)))) UNK)]) (TI.dn (NX.sq (TS.rt ?_))))
      refine ⟨.inr rfl, rfl, sv 3 (List.length (List.take (Int.toNat 0) (List.replicate (Int.toNat (w64 (o4 - 0))) ((0, 0) : I2)))) UNK, sv 3 (List.length (List.take (Int.toNat 0) (List.replicate (Int.toNat (w64 (o4 - 0))) ((0, 0) : I2)))) UNK, (H53_1 p0 p1 o4), by kernel_rfl, WkV.refl, (TI.rn 0 [0, 24] [0, 1, 2, 3] (st 36 [(0, sv 0 2 2), (24, sv 3 (List.length (List.take (Int.toNat 0) (List.replicate (Int.toNat (w64 (o4 - 0))) ((0, 0) : I2)))) UNK)]) (H53_1 p0 p1 o4) (TI.ra 1 [0, 6] (st 36 [(0, sv 0 2 2), (6, sv 3 (List.length (List.take (Int.toNat 0) (List.replicate (Int.toNat (w64 (o4 - 0))) ((0, 0) : I2)))) UNK)]) (TI.dn (NX.sq (TS.sq (TS.sq (TS.rg (TI.ra 3 [6, 25, 26, 27] (st 36 [(6, sv 3 (List.length (List.take (Int.toNat 0) (List.replicate (Int.toNat (w64 (o4 - 0))) ((0, 0) : I2)))) UNK), (25, sv 0 2 2), (26, iv 2), (27, iv 0)]) ?_))))))))⟩
      refine TI.dn (NX.sq (TS.bk 2 (TS.lp (TL.round (TS.sq (TS.rg (TI.ra 1 [6, 25, 26, 27, 28] (st 36 [(6, sv 3 (List.length (List.take (Int.toNat 0) (List.replicate (Int.toNat (w64 (o4 - 0))) ((0, 0) : I2)))) UNK), (25, sv 0 2 2), (26, iv 2), (27, iv 0), (28, .bool true)]) (TI.dn ?_))))))))
      refine NX.sq (TS.sq (TS.cdT (.tmp 28) (TS.sk (NX.sq (TS.sq (TS.bk 3 (TS.sq (TS.rg ?_))))))))
      refine TI.ra 3 [6, 8, 25, 26, 27] (st 36 [(6, sv 3 (List.length (List.take (Int.toNat 0) (List.replicate (Int.toNat (w64 (o4 - 0))) ((0, 0) : I2)))) UNK), (8, sv 1 p0.length ANY), (25, sv 0 2 2), (26, iv 2), (27, iv 0)]) (TI.dn (NX.sq ?_))
      obtain ⟨hg19, hF⟩ := of_guard hF
      obtain ⟨hg20, hF⟩ := of_guard hF
      refine TS.rg (TI.ra 2 [25, 26, 27, 31, 32] (st 36 [(25, sv 0 2 2), (26, iv 2), (27, iv 0), (31, sv 3 (List.length (List.take (Int.toNat 0) (List.replicate (Int.toNat (w64 (o4 - 0))) ((0, 0) : I2)))) UNK), (32, sv 1 p0.length ANY)]) ?_)
      refine TI.o { val := ownV 4 (List.length ((List.take (Int.toNat 0) (List.replicate (Int.toNat (w64 (o4 - 0))) ((0, 0) : I2))) ++ p0)), new := [.cells 57 (List.flatMap e57 ((List.take (Int.toNat 0) (List.replicate (Int.toNat (w64 (o4 - 0))) ((0, 0) : I2))) ++ p0))], upd := some (3, .dead) } (q_appP (P := Try.prog) (base := 3) (hp := (H53_1 p0 p1 o4)) (n := 4) (s := 2) (enc := e57) (ts := #[22, 22]) (e := 57) (bytes := 16) (z := ag [iv 0, iv 0]) (y := sv 1 p0.length ANY) (ys := p0) (b := 3) (L := List.replicate (Int.toNat (w64 (o4 - 0))) ((0, 0) : I2)) (l := List.take (Int.toNat 0) (List.replicate (Int.toNat (w64 (o4 - 0))) ((0, 0) : I2))) (win_take win_all _) (by kernel_rfl) (by kernel_rfl) (by decide) (by kernel_rfl) (by kernel_rfl) (by kernel_rfl) (by kernel_rfl) (by kernel_rfl) (arg_win (e := 57) (off := 0) (L := p0) (ys := p0) win_all (holds_acc (hp := (H53_1 p0 p1 o4)) (b := 1) (T := 57) (enc := e57) (L := p0) (by kernel_rfl)) (fun _ => rfl) (by kernel_rfl)) (cells_ok (fun _ => rfl)) (fun _ => rfl) (by first | omega | (simp only [List.length_append, List.length_cons, List.length_nil]; omega))) [25, 26, 27, 33] [0, 1, 2, 4] (st 36 [(25, sv 0 2 2), (26, iv 2), (27, iv 0), (33, ownV 4 (List.length ((List.take (Int.toNat 0) (List.replicate (Int.toNat (w64 (o4 - 0))) ((0, 0) : I2))) ++ p0)))]) (H53_0 p0 p1 o4) (TI.ra 1 [6, 25, 26, 27] (st 36 [(6, ownV 4 (List.length ((List.take (Int.toNat 0) (List.replicate (Int.toNat (w64 (o4 - 0))) ((0, 0) : I2))) ++ p0))), (25, sv 0 2 2), (26, iv 2), (27, iv 0)]) (TI.dn (NX.bk (NX.sq (TS.rg (TI.ra 2 [6, 25, 26, 27] (st 36 [(6, ownV 4 (List.length ((List.take (Int.toNat 0) (List.replicate (Int.toNat (w64 (o4 - 0))) ((0, 0) : I2))) ++ p0))), (25, sv 0 2 2), (26, iv 2), (27, iv 1)]) (TI.dn ?_)))))))
      refine Rd.again Wk.refl (TL.round (TS.sq (TS.rg (TI.ra 1 [6, 25, 26, 27, 28] (st 36 [(6, ownV 4 (List.length ((List.take (Int.toNat 0) (List.replicate (Int.toNat (w64 (o4 - 0))) ((0, 0) : I2))) ++ p0))), (25, sv 0 2 2), (26, iv 2), (27, iv 1), (28, .bool true)]) (TI.dn (NX.sq (TS.sq (TS.cdT (.tmp 28) (TS.sk ?_)))))))))
      refine NX.sq (TS.sq (TS.bk 3 (TS.sq (TS.rg (TI.ra 3 [6, 8, 25, 26, 27] (st 36 [(6, ownV 4 (List.length ((List.take (Int.toNat 0) (List.replicate (Int.toNat (w64 (o4 - 0))) ((0, 0) : I2))) ++ p0))), (8, sv 2 p1.length ANY), (25, sv 0 2 2), (26, iv 2), (27, iv 1)]) (TI.dn (NX.sq ?_)))))))
      obtain ⟨hg21, hF⟩ := of_guard hF
      obtain ⟨hg22, hF⟩ := of_guard hF
      refine TS.rg (TI.ra 2 [25, 26, 27, 31, 32] (st 36 [(25, sv 0 2 2), (26, iv 2), (27, iv 1), (31, ownV 4 (List.length ((List.take (Int.toNat 0) (List.replicate (Int.toNat (w64 (o4 - 0))) ((0, 0) : I2))) ++ p0))), (32, sv 2 p1.length ANY)]) ?_)
      refine TI.o { val := ownV 5 (List.length (((List.take (Int.toNat 0) (List.replicate (Int.toNat (w64 (o4 - 0))) ((0, 0) : I2))) ++ p0) ++ p1)), new := [.cells 57 (List.flatMap e57 (((List.take (Int.toNat 0) (List.replicate (Int.toNat (w64 (o4 - 0))) ((0, 0) : I2))) ++ p0) ++ p1))], upd := some (4, .dead) } (q_appO (P := Try.prog) (base := 3) (hp := (H53_0 p0 p1 o4)) (n := 5) (s := 2) (enc := e57) (ts := #[22, 22]) (e := 57) (bytes := 16) (z := ag [iv 0, iv 0]) (y := sv 2 p1.length ANY) (ys := p1) (b := 4) (l := (List.take (Int.toNat 0) (List.replicate (Int.toNat (w64 (o4 - 0))) ((0, 0) : I2))) ++ p0) (by kernel_rfl) (by kernel_rfl) (by decide) (by kernel_rfl) (by kernel_rfl) (by kernel_rfl) (by kernel_rfl) (by kernel_rfl) (arg_win (e := 57) (off := 0) (L := p1) (ys := p1) win_all (holds_acc (hp := (H53_0 p0 p1 o4)) (b := 2) (T := 57) (enc := e57) (L := p1) (by kernel_rfl)) (fun _ => rfl) (by kernel_rfl)) (cells_ok (fun _ => rfl)) (fun _ => rfl) (by first | omega | (simp only [List.length_append, List.length_cons, List.length_nil]; omega))) [25, 26, 27, 33] [0, 1, 2, 5] (st 36 [(25, sv 0 2 2), (26, iv 2), (27, iv 1), (33, ownV 5 (List.length (((List.take (Int.toNat 0) (List.replicate (Int.toNat (w64 (o4 - 0))) ((0, 0) : I2))) ++ p0) ++ p1)))]) [cl 22 [sv 1 p0.length ANY, sv 2 p1.length ANY], ab 57 e57 p0, ab 57 e57 p1, .dead, .dead, .cells 57 (List.flatMap e57 (((List.take (Int.toNat 0) (List.replicate (Int.toNat (w64 (o4 - 0))) ((0, 0) : I2))) ++ p0) ++ p1))] (TI.ra 1 [6, 25, 26, 27] (st 36 [(6, ownV 5 (List.length (((List.take (Int.toNat 0) (List.replicate (Int.toNat (w64 (o4 - 0))) ((0, 0) : I2))) ++ p0) ++ p1))), (25, sv 0 2 2), (26, iv 2), (27, iv 1)]) (TI.dn (NX.bk (NX.sq (TS.rg (TI.ra 2 [6, 25, 26, 27] (st 36 [(6, ownV 5 (List.length (((List.take (Int.toNat 0) (List.replicate (Int.toNat (w64 (o4 - 0))) ((0, 0) : I2))) ++ p0) ++ p1))), (25, sv 0 2 2), (26, iv 2), (27, iv 2)]) (TI.dn ?_)))))))
      refine Rd.again Wk.refl (TL.round (TS.sq (TS.rg (TI.ra 1 [6, 25, 26, 27, 28] (st 36 [(6, ownV 5 (List.length (((List.take (Int.toNat 0) (List.replicate (Int.toNat (w64 (o4 - 0))) ((0, 0) : I2))) ++ p0) ++ p1))), (25, sv 0 2 2), (26, iv 2), (27, iv 2), (28, .bool false)]) (TI.dn (NX.sq (TS.sq (TS.cdF (.tmp 28) (TS.ex 2 ?_)))))))))
      refine NX.sqX ?_
      refine Rd.out (by simp) (NX.bkX (NX.sq (TS.sq (TS.rg (TI.ra 2 [2] (st 36 [(2, ownV 5 (List.length (((List.take (Int.toNat 0) (List.replicate (Int.toNat (w64 (o4 - 0))) ((0, 0) : I2))) ++ p0) ++ p1)))]) (TI.dn (NX.sq (TS.rt ?_))))))))
      have hF := sj hF
      subst hF
      exact ⟨.inr rfl, rfl, ownV 5 (List.length (((List.take (Int.toNat 0) (List.replicate (Int.toNat (w64 (o4 - 0))) ((0, 0) : I2))) ++ p0) ++ p1)), by kernel_rfl, WkV.made (L := 3) (f := [5]) (by decide) (by decide) rfl (.cons (At.accU (by kernel_rfl) rfl (fun _ => rfl)) (.nil _)) (Rn.ownA (nl rfl) rfl (by first | rfl | simp only [List.length_set]))⟩
    replace hF := of_neg hF hc16
    refine TS.sk (NX.sq (TS.sq (TS.rg (TI.ra 2 [4] (st 27 [(4, .slice none 0 0)]) (TI.dn (NX.sq (TS.rt ?_)))))))
    refine ⟨.inr rfl, rfl, .slice none 0 0, .slice none 0 0, (H53_3 p0 p1), by kernel_rfl, WkV.refl, (TI.rn 0 [0, 24] [0, 1, 2] (st 36 [(0, sv 0 2 2), (24, .slice none 0 0)]) (H53_3 p0 p1) (TI.ra 1 [0, 6] (st 36 [(0, sv 0 2 2), (6, .slice none 0 0)]) (TI.dn (NX.sq (TS.sq (TS.sq (TS.rg (TI.ra 3 [6, 25, 26, 27] (st 36 [(6, .slice none 0 0), (25, sv 0 2 2), (26, iv 2), (27, iv 0)]) ?_))))))))⟩
    refine TI.dn (NX.sq (TS.bk 2 (TS.lp (TL.round (TS.sq (TS.rg (TI.ra 1 [6, 25, 26, 27, 28] (st 36 [(6, .slice none 0 0), (25, sv 0 2 2), (26, iv 2), (27, iv 0), (28, .bool true)]) (TI.dn ?_))))))))
    refine NX.sq (TS.sq (TS.cdT (.tmp 28) (TS.sk (NX.sq (TS.sq (TS.bk 3 (TS.sq (TS.rg ?_))))))))
    refine TI.ra 3 [6, 8, 25, 26, 27] (st 36 [(6, .slice none 0 0), (8, sv 1 p0.length ANY), (25, sv 0 2 2), (26, iv 2), (27, iv 0)]) (TI.dn (NX.sq ?_))
    obtain ⟨hg23, hF⟩ := of_guard hF
    refine TS.rg (TI.ra 2 [25, 26, 27, 31, 32] (st 36 [(25, sv 0 2 2), (26, iv 2), (27, iv 0), (31, .slice none 0 0), (32, sv 1 p0.length ANY)]) ?_)
    refine TI.accN (s := 2) (enc := e57) (ts := #[22, 22]) (e := 57) (bytes := 16) (z := ag [iv 0, iv 0]) (y := sv 1 p0.length ANY) (ys := p0) (by kernel_rfl) (by kernel_rfl) (by kernel_rfl) (by kernel_rfl) (by kernel_rfl) (by kernel_rfl) (arg_win (e := 57) (off := 0) (L := p0) (ys := p0) win_all (holds_acc (hp := (H53_3 p0 p1)) (b := 1) (T := 57) (enc := e57) (L := p0) (by kernel_rfl)) (fun _ => rfl) (by kernel_rfl)) (by first | omega | (simp only [List.length_append, List.length_cons, List.length_nil]; omega)) [25, 26, 27, 33] [0, 1, 2, 3] (a2 := (st 36 [(25, sv 0 2 2), (26, iv 2), (27, iv 0), (33, accV 3 p0.length)])) (h2 := (H53_2 p0 p1)) (by kernel_rfl) (TI.ra 1 [6, 25, 26, 27] (st 36 [(6, accV 3 p0.length), (25, sv 0 2 2), (26, iv 2), (27, iv 0)]) (TI.dn (NX.bk (NX.sq (TS.rg (TI.ra 2 [6, 25, 26, 27] (st 36 [(6, accV 3 p0.length), (25, sv 0 2 2), (26, iv 2), (27, iv 1)]) (TI.dn ?_)))))))
    refine Rd.again Wk.refl (TL.round (TS.sq (TS.rg (TI.ra 1 [6, 25, 26, 27, 28] (st 36 [(6, accV 3 p0.length), (25, sv 0 2 2), (26, iv 2), (27, iv 1), (28, .bool true)]) (TI.dn (NX.sq (TS.sq (TS.cdT (.tmp 28) (TS.sk ?_)))))))))
    refine NX.sq (TS.sq (TS.bk 3 (TS.sq (TS.rg (TI.ra 3 [6, 8, 25, 26, 27] (st 36 [(6, accV 3 p0.length), (8, sv 2 p1.length ANY), (25, sv 0 2 2), (26, iv 2), (27, iv 1)]) (TI.dn (NX.sq ?_)))))))
    obtain ⟨hg24, hF⟩ := of_guard hF
    refine TS.rg (TI.ra 2 [25, 26, 27, 31, 32] (st 36 [(25, sv 0 2 2), (26, iv 2), (27, iv 1), (31, accV 3 p0.length), (32, sv 2 p1.length ANY)]) ?_)
    refine TI.accL (l := p0) (b := 3) (s := 2) (enc := e57) (ts := #[22, 22]) (e := 57) (bytes := 16) (z := ag [iv 0, iv 0]) (y := sv 2 p1.length ANY) (ys := p1) (by kernel_rfl) (by kernel_rfl) (by decide) (by kernel_rfl) (by kernel_rfl) (by kernel_rfl) (by kernel_rfl) (by kernel_rfl) (arg_win (e := 57) (off := 0) (L := p1) (ys := p1) win_all (holds_acc (hp := (H53_2 p0 p1)) (b := 2) (T := 57) (enc := e57) (L := p1) (by kernel_rfl)) (fun _ => rfl) (by kernel_rfl)) (cells_ok (fun _ => rfl)) (fun _ => rfl) (by first | omega | (simp only [List.length_append, List.length_cons, List.length_nil]; omega)) [25, 26, 27, 33] [0, 1, 2, 4] (a2 := (st 36 [(25, sv 0 2 2), (26, iv 2), (27, iv 1), (33, accV 4 (List.length (p0 ++ p1)))])) (h2 := [cl 22 [sv 1 p0.length ANY, sv 2 p1.length ANY], ab 57 e57 p0, ab 57 e57 p1, .dead, accB 57 (List.length (p0 ++ p1)) (List.flatMap e57 (p0 ++ p1))]) (by kernel_rfl) (TI.ra 1 [6, 25, 26, 27] (st 36 [(6, accV 4 (List.length (p0 ++ p1))), (25, sv 0 2 2), (26, iv 2), (27, iv 1)]) (TI.dn (NX.bk (NX.sq (TS.rg (TI.ra 2 [6, 25, 26, 27] (st 36 [(6, accV 4 (List.length (p0 ++ p1))), (25, sv 0 2 2), (26, iv 2), (27, iv 2)]) (TI.dn ?_)))))))
    refine Rd.again Wk.refl (TL.round (TS.sq (TS.rg (TI.ra 1 [6, 25, 26, 27, 28] (st 36 [(6, accV 4 (List.length (p0 ++ p1))), (25, sv 0 2 2), (26, iv 2), (27, iv 2), (28, .bool false)]) (TI.dn (NX.sq (TS.sq (TS.cdF (.tmp 28) (TS.ex 2 ?_)))))))))
    refine NX.sqX ?_
    refine Rd.out (by simp) (NX.bkX (NX.sq (TS.sq (TS.rg (TI.ra 2 [2] (st 36 [(2, accV 4 (List.length (p0 ++ p1)))]) (TI.dn (NX.sq (TS.rt ?_))))))))
    have hF := sj hF
    subst hF
    exact ⟨.inr rfl, rfl, accV 4 (List.length (p0 ++ p1)), by kernel_rfl, WkV.made (L := 3) (f := [4]) (by decide) (by decide) rfl (.ac (.nil _)) (accAE (nl rfl) rfl (by first | rfl | simp only [List.length_set]))⟩
   clear hF
   have hF := hm11
   clear hm11
   refine TS.start ?_
   refine TS.cd (.tmp 6) (decide (o4 < 0)) (fun hc25 => ?_) (fun hc25 => ?_)
   · replace hF := of_pos hF hc25
     cases hF
   replace hF := of_neg hF hc25
   refine TS.sk ?_
   have hF := sj hF
   subst hF
   exact TS.weak (by exact (Wk.an [] (.lt (.sl (.sl .nil)) (.ac (.ac (.nil _)))) [.slice none 0 0, iv o4] (.fl (.fl .nil)))) hK
  clear hF
  have hF := hm8
  clear hm8
  refine TS.start ?_
  refine TS.cd (.tmp 20) (decide (o4 < 0)) (fun hc26 => ?_) (fun hc26 => ?_)
  · replace hF := of_pos hF hc26
    cases hF
  replace hF := of_neg hF hc26
  refine TS.sk ?_
  have hF := sj hF
  subst hF
  exact TS.weak (by exact (Wk.an [] (.lt (.sl (.sl .nil)) (.ac (.ac (.nil _)))) [sv 0 2 2, iv o4, sv 0 2 2, iv 2, iv 1] (.sl (.fl (.sl (.fl (.fl .nil))))))) hK
 clear hF
 have hF := hm3
 clear hm3
 refine TS.start ?_
 refine TS.cd (.tmp 20) (decide ((w64 (0 + (p0.length : Int))) < 0)) (fun hc27 => ?_) (fun hc27 => ?_)
 · replace hF := of_pos hF hc27
   cases hF
 replace hF := of_neg hF hc27
 refine TS.sk ?_
 have hF := sj hF
 subst hF
 exact TS.weak (by exact (Wk.an [] (.lt (.sl (.sl .nil)) (.ac (.ac (.nil _)))) [sv 0 2 2, iv (w64 (0 + (p0.length : Int))), sv 0 2 2, iv 2, iv 0] (.sl (.fl (.sl (.fl (.fl .nil))))))) hK
theorem C53 (p0 p1 r : List I2) (hF : F53 p0 p1 = some r) : PureSim Try.prog 53 [sv 0 2 2] (H53_3 p0 p1) (V53 3 r) (N53 3 r) :=
 PureSim.of_Fin Try.func53 (c := c53) (by kernel_rfl) (by kernel_rfl) 3 rfl [0] [0, 1, 2] (by kernel_rfl) (B53 p0 p1 r hF)
noncomputable def c25 : Code := Try.f25.code
def H25_0 (p2 : List I2) (p0 p1 : Int) (v15 : List Int) (v14 : Int) : List Blk := [ab 57 e57 p2, cl 24 [iv p0, iv p1, sv 0 p2.length ANY], ab 3 e3 v15, cl 24 [iv p0, iv p1, sv 0 p2.length ANY], cl 22 [sv 0 (List.length (List.take (Int.toNat v14) p2)) ANY, .slice (some ⟨0, 0 + Int.toNat (w64 (v14 + 1)) * 2, none⟩) (List.length (List.drop (Int.toNat (w64 (v14 + 1))) p2)) ANY]]
def H25_1 (p2 : List I2) (p0 p1 : Int) (v15 : List Int) (r31 : List I2) (r33 : List (I2 × PL)) : List Blk := [ab 57 e57 p2, cl 24 [iv p0, iv p1, sv 0 p2.length ANY], ab 3 e3 v15, cl 24 [iv p0, iv p1, sv 5 r31.length ANY], .dead, ab 57 e57 r31, mb 83 u83 u85 r33]
def H25_2 (p2 : List I2) (p0 p1 : Int) (v15 : List Int) (r31 : List I2) : List Blk := [ab 57 e57 p2, cl 24 [iv p0, iv p1, sv 0 p2.length ANY], ab 3 e3 v15, cl 24 [iv p0, iv p1, sv 5 r31.length ANY], .dead, ab 57 e57 r31]
def H25_3 (p2 : List I2) (p0 p1 : Int) (v15 : List Int) : List Blk := [ab 57 e57 p2, cl 24 [iv p0, iv p1, sv 0 p2.length ANY], ab 3 e3 v15, cl 24 [iv p0, iv p1, sv 0 p2.length ANY]]
def F25l0 (p0 p1 : Int) (p2 : List I2) (v15 : List Int) (v14 : Int) : Option (List Int) :=
 if decide (v14 < (p2.length : Int)) then
  if (0 : Int) ≤ v14 ∧ v14 ≤ (p2.length : Int) then
   if (0 : Int) ≤ w64 (v14 + 1) ∧ w64 (v14 + 1) ≤ (p2.length : Int) then
    F53 (List.take (Int.toNat v14) p2) (List.drop (Int.toNat (w64 (v14 + 1))) p2) >>= fun r31 =>
    F49 p0 p1 r31 >>= fun r33 =>
    F54 p0 p1 r31 r33 >>= fun r35 =>
    (
     if decide (r35 < 0) then
      if List.length v15 ≤ 1000000000 then
       some (v15 ++ [v14])
      else none
     else
      some v15
    : Option (List Int)) >>= fun m40 =>
    F25l0 p0 p1 p2 m40 (w64 (v14 + 1))
   else none
  else none
 else
  some v15
 partial_fixpoint
def F25 (p0 p1 : Int) (p2 : List I2) : Option ((List Int) × Int) :=
 F23 p0 p1 p2 >>= fun r1 =>
 if r1 != 0 then
  some ([], r1)
 else
  F25l0 p0 p1 p2 ([]) 0 >>= fun r44 =>
  some (r44, 0)
def V25 (b : Nat) (r : (List Int) × Int) : Value := .tuple ⟨[accV (b + 0) r.1.length, iv r.2]⟩
def N25 (b : Nat) (r : (List Int) × Int) : List Blk := [ab 3 e3 r.1]
def P25l0 (p0 p1 : Int) (p2 : List I2) (r : List Int) : Post := fun e a h => e = .exit 0 ∧ Wk Try.prog 1 1 a h (st 43 [(5, accV 1 r.length)]) [ab 57 e57 p2, ab 3 e3 r]
theorem L25l0 (p0 p1 : Int) (p2 : List I2) (v15 : List Int) (v14 : Int) (r : List Int) (hF : F25l0 p0 p1 p2 v15 v14 = some r) : TL Try.prog 1 1 c25.s2.s2.s2.s1.s2.bd.bd (st 43 [(1, pt 1 0), (5, accV 2 v15.length), (15, iv (p2.length : Int)), (16, iv v14)]) [ab 57 e57 p2, cl 24 [iv p0, iv p1, sv 0 p2.length ANY], ab 3 e3 v15] (P25l0 p0 p1 p2 r) := by
 refine F25l0.partial_correctness p0 p1 p2 (motive := fun v15 v14 r => TL Try.prog 1 1 c25.s2.s2.s2.s1.s2.bd.bd (st 43 [(1, pt 1 0), (5, accV 2 v15.length), (15, iv (p2.length : Int)), (16, iv v14)]) [ab 57 e57 p2, cl 24 [iv p0, iv p1, sv 0 p2.length ANY], ab 3 e3 v15] (P25l0 p0 p1 p2 r)) ?_ v15 v14 r hF
 clear hF r v15 v14
 intro again ih v15 v14 r hF
 refine TL.round (TS.sq (TS.rg (TI.ra 1 [1, 5, 15, 16, 17] (st 43 [(1, pt 1 0), (5, accV 2 v15.length), (15, iv (p2.length : Int)), (16, iv v14), (17, .bool (decide (v14 < (p2.length : Int))))]) (TI.dn (NX.sq (TS.sq ?_))))))
 refine TS.cd (.tmp 17) (decide (v14 < (p2.length : Int))) (fun hc28 => ?_) (fun hc28 => ?_)
 · replace hF := of_pos hF hc28
   refine TS.sk (NX.sq (TS.sq (TS.bk 1 (TS.sq (TS.rg (TI.ra 2 [1, 5, 6, 15, 16] (st 43 [(1, pt 1 0), (5, accV 2 v15.length), (6, iv v14), (15, iv (p2.length : Int)), (16, iv v14)]) (TI.dn (NX.sq ?_))))))))
   refine TS.sq (TS.rg (TI.rn 3 [1, 5, 6, 7, 15, 16] [0, 1, 2, 3] (st 43 [(1, pt 1 0), (5, accV 2 v15.length), (6, iv v14), (7, pt 3 0), (15, iv (p2.length : Int)), (16, iv v14)]) (H25_3 p2 p0 p1 v15) (TI.dn (NX.sq (TS.sq ?_)))))
   obtain ⟨hg29, hF⟩ := of_guard hF
   obtain ⟨hg30, hF⟩ := of_guard hF
   obtain ⟨r31, h32, hF⟩ := of_do hF
   have hT : ∀ e ∈ ([⟨53, [sv 4 2 2], (H25_0 p2 p0 p1 v15 v14), sv 5 r31.length ANY, [ab 57 e57 r31]⟩] : List Entry), PureSim Try.prog e.g e.args e.h e.v e.new := by
    intro e he
    simp only [List.mem_cons, List.not_mem_nil, or_false] at he
    rcases he with rfl
    exact (PureSim.ren (hc := [cl 22 [sv 1 (List.length (List.take (Int.toNat v14) p2)) ANY, sv 2 (List.length (List.drop (Int.toNat (w64 (v14 + 1))) p2)) ANY], accB 57 (List.length (List.take (Int.toNat v14) p2)) (List.flatMap e57 (List.take (Int.toNat v14) p2)), accB 57 (List.length (List.drop (Int.toNat (w64 (v14 + 1))) p2)) (List.flatMap e57 (List.drop (Int.toNat (w64 (v14 + 1))) p2))]) (fun i => List.getD [(4, 0), (0, 0), (0, 0 + Int.toNat (w64 (v14 + 1)) * 2)] i (0, 0)) (C53 _ _ _ h32) (.cons (At.blk (b1 := cl 22 [sv 0 (List.length (List.take (Int.toNat v14) p2)) ANY, .slice (some ⟨0, 0 + Int.toNat (w64 (v14 + 1)) * 2, none⟩) (List.length (List.drop (Int.toNat (w64 (v14 + 1))) p2)) ANY]) (by kernel_rfl) (RnB.lit (.cons (Rn.win (i := 1) (i' := 0) (off := 0) (Nat.le_of_ble_eq_true (by rfl)) (by rfl) rfl) (.cons (Rn.win (i := 2) (i' := 0) (off := 0 + Int.toNat (w64 (v14 + 1)) * 2) (Nat.le_of_ble_eq_true (by rfl)) (by rfl) rfl) .nil)))) (.cons (At.win (s := 2) (b := 0) (off := 0) (L := p2) (ys := List.take (Int.toNat v14) p2) (by rfl) (win_take win_all _) (holds_acc (hp := (H25_0 p2 p0 p1 v15 v14)) (b := 0) (T := 57) (enc := e57) (L := p2) (by kernel_rfl)) (fun _ => rfl) (fun _ => rfl)) (.cons (At.win (s := 2) (b := 0) (off := 0 + Int.toNat (w64 (v14 + 1)) * 2) (L := p2) (ys := List.drop (Int.toNat (w64 (v14 + 1))) p2) (by rfl) (win_drop win_all _) (holds_acc (hp := (H25_0 p2 p0 p1 v15 v14)) (b := 0) (T := 57) (enc := e57) (L := p2) (by kernel_rfl)) (fun _ => rfl) (fun _ => rfl)) (.nil _)))) (.sl .nil) (Rn.anyS (i' := 5) (nl rfl) rfl rfl) (newflat_cons (accB_flat (fun _ => rfl)) newflat_nil))
   refine TS.dp [⟨53, [sv 4 2 2], (H25_0 p2 p0 p1 v15 v14), sv 5 r31.length ANY, [ab 57 e57 r31]⟩] hT mixed 9 [1, 5, 6, 7, 15, 16] [0, 1, 2, 3, 5] (st 43 [(1, pt 1 0), (5, accV 2 v15.length), (6, iv v14), (7, pt 3 0), (15, iv (p2.length : Int)), (16, iv v14)]) (H25_2 p2 p0 p1 v15 r31) ?_ ?_
   · exact QJ.rn (qs (st 43 [(1, pt 1 0), (5, accV 2 v15.length), (6, iv v14), (7, pt 3 0), (15, iv (p2.length : Int)), (16, iv v14), (20, pt 1 2), (21, sv 0 p2.length ANY), (22, iv v14)]) (H25_3 p2 p0 p1 v15) [] []) 3 (QJ.o { val := sv 0 (List.length (List.take (Int.toNat v14) p2)) ANY } (q_slAhi (P := Try.prog) (t := 22) (e := 57) (s := 2) (b := 0) (off := 0) (ys := p2) (k := .i64) (y := v14) (by kernel_rfl) (by kernel_rfl) (by kernel_rfl) hg29) (QJ.rn (qs (st 43 [(1, pt 1 0), (5, accV 2 v15.length), (6, iv v14), (7, pt 3 0), (15, iv (p2.length : Int)), (16, iv v14), (20, pt 1 2), (21, sv 0 p2.length ANY), (22, iv v14), (23, sv 0 (List.length (List.take (Int.toNat v14) p2)) ANY), (24, pt 1 2), (25, sv 0 p2.length ANY), (26, iv v14), (27, iv (w64 (v14 + 1)))]) (H25_3 p2 p0 p1 v15) [] []) 4 (QJ.o { val := .slice (some ⟨0, 0 + Int.toNat (w64 (v14 + 1)) * 2, none⟩) (List.length (List.drop (Int.toNat (w64 (v14 + 1))) p2)) ANY } (q_slAlo (P := Try.prog) (t := 22) (e := 57) (s := 2) (b := 0) (off := 0) (ys := p2) (k := .i64) (y := w64 (v14 + 1)) (by kernel_rfl) (by kernel_rfl) (by kernel_rfl) hg30) (QJ.dn ⟨rfl, (SJ.rn (st 43 [(1, pt 1 0), (5, accV 2 v15.length), (6, iv v14), (7, pt 3 0), (15, iv (p2.length : Int)), (16, iv v14), (20, pt 1 2), (21, sv 0 p2.length ANY), (22, iv v14), (23, sv 0 (List.length (List.take (Int.toNat v14) p2)) ANY), (24, pt 1 2), (25, sv 0 p2.length ANY), (26, iv v14), (27, iv (w64 (v14 + 1))), (28, .slice (some ⟨0, 0 + Int.toNat (w64 (v14 + 1)) * 2, none⟩) (List.length (List.drop (Int.toNat (w64 (v14 + 1))) p2)) ANY), (29, sv 4 2 2)]) (H25_0 p2 p0 p1 v15 v14) 1 (SJ.o { val := sv 5 r31.length ANY, new := [ab 57 e57 r31] } (qOf_call (g := 53) (args := [sv 4 2 2]) (by kernel_rfl) lookC_hit) SJ.la))⟩))))
   refine TS.sq ?_
   obtain ⟨r33, h34, hF⟩ := of_do hF
   obtain ⟨r35, h36, hF⟩ := of_do hF
   have hT : ∀ e ∈ ([⟨49, [ag [iv p0, iv p1, sv 5 r31.length ANY]], (H25_2 p2 p0 p1 v15 r31), .map (some 6), [mb 83 u83 u85 r33]⟩, ⟨54, [ag [iv p0, iv p1, sv 5 r31.length ANY], .map (some 6)], (H25_1 p2 p0 p1 v15 r31 r33), iv r35, []⟩] : List Entry), PureSim Try.prog e.g e.args e.h e.v e.new := by
    intro e he
    simp only [List.mem_cons, List.not_mem_nil, or_false] at he
    rcases he with rfl | rfl
    · exact (PureSim.ren (hc := [ab 57 e57 r31]) (fun i => List.getD [(5, 0)] i (0, 0)) (C49 _ _ _ _ h34) (.ac (.nil _)) (.cons (Rn.agg' (.fl (.fl (.cons (Rn.any _ _ _ _ _ _ (nl rfl) rfl rfl (by decide)) .nil)))) .nil) (Rn.map _ (nl rfl)) (newflat_cons (.inr rfl) newflat_nil))
    exact (PureSim.ren (hc := [ab 57 e57 r31, mb 83 u83 u85 r33]) (fun i => List.getD [(5, 0), (6, 0)] i (0, 0)) (C54 _ _ _ _ _ h36) (.ac (.cons (At.blk (by kernel_rfl) (RnB.map _ _)) (.nil _))) (.cons (Rn.agg' (.fl (.fl (.cons (Rn.any _ _ _ _ _ _ (nl rfl) rfl rfl (by decide)) .nil)))) (.cons (Rn.map _ (nl rfl)) .nil)) (.flat (by kernel_rfl)) newflat_nil)
   refine TS.dp [⟨49, [ag [iv p0, iv p1, sv 5 r31.length ANY]], (H25_2 p2 p0 p1 v15 r31), .map (some 6), [mb 83 u83 u85 r33]⟩, ⟨54, [ag [iv p0, iv p1, sv 5 r31.length ANY], .map (some 6)], (H25_1 p2 p0 p1 v15 r31 r33), iv r35, []⟩] hT mixed 3 [1, 5, 6, 15, 16, 36] [0, 1, 2] (st 43 [(1, pt 1 0), (5, accV 2 v15.length), (6, iv v14), (15, iv (p2.length : Int)), (16, iv v14), (36, .bool (decide (r35 < 0)))]) [ab 57 e57 p2, cl 24 [iv p0, iv p1, sv 0 p2.length ANY], ab 3 e3 v15, .dead, .dead, .dead, .dead] ?_ ?_
   · exact QJ.rn (qs (st 43 [(1, pt 1 0), (5, accV 2 v15.length), (6, iv v14), (7, pt 3 0), (15, iv (p2.length : Int)), (16, iv v14), (32, ag [iv p0, iv p1, sv 5 r31.length ANY]), (33, ag [iv p0, iv p1, sv 5 r31.length ANY])]) (H25_2 p2 p0 p1 v15 r31) [] []) 2 (QJ.o { val := .map (some 6), new := [mb 83 u83 u85 r33] } (qOf_call (g := 49) (args := [ag [iv p0, iv p1, sv 5 r31.length ANY]]) (by kernel_rfl) lookC_hit) (QJ.dn ⟨rfl, (SJ.o { val := iv r35, new := [] } (qOf_call (g := 54) (args := [ag [iv p0, iv p1, sv 5 r31.length ANY], .map (some 6)]) (by kernel_rfl) (lookC_skip (fun hg => absurd (show (49 : Nat) = 54 from hg) (by decide)) lookC_hit)) SJ.la)⟩))
   obtain ⟨m40, hm41, hF⟩ := of_do hF
   have hK : NX Try.prog 1 1 [.bk 1, .sq c25.s2.s2.s2.s1.s2.bd.bd.s2.s2.s2] (Rd Try.prog 1 1 c25.s2.s2.s2.s1.s2.bd.bd (P25l0 p0 p1 p2 r)) .normal (st 43 [(1, pt 1 0), (5, accV 2 m40.length), (15, iv (p2.length : Int)), (16, iv v14)]) [ab 57 e57 p2, cl 24 [iv p0, iv p1, sv 0 p2.length ANY], ab 3 e3 m40] := by
    refine NX.bk (NX.sq (TS.rg (TI.ra 2 [1, 5, 15, 16] (st 43 [(1, pt 1 0), (5, accV 2 m40.length), (15, iv (p2.length : Int)), (16, iv (w64 (v14 + 1)))]) (TI.dn ?_))))
    exact Rd.again (a2 := (st 43 [(1, pt 1 0), (5, accV 2 m40.length), (15, iv (p2.length : Int)), (16, iv (w64 (v14 + 1)))])) (h2 := [ab 57 e57 p2, cl 24 [iv p0, iv p1, sv 0 p2.length ANY], ab 3 e3 m40]) (Wk.an [1, 2] (.ac (.lt (.fl (.fl (.sl .nil))) (.ac (.nil _)))) [pt 1 0, accV 2 m40.length, iv (p2.length : Int), iv (w64 (v14 + 1))] (.pp (.cons (Rn.acc (nl rfl) rfl) (.fl (.fl .nil))))) (ih m40 (w64 (v14 + 1)) _ hF)
   clear hF
   have hF := hm41
   clear hm41
   refine TS.start ?_
   refine TS.cd (.tmp 36) (decide (r35 < 0)) (fun hc42 => ?_) (fun hc42 => ?_)
   · replace hF := of_pos hF hc42
     obtain ⟨hg43, hF⟩ := of_guard hF
     refine TS.rg (TI.rn 3 [1, 15, 16, 37, 39] [0, 1, 2, 7] (st 43 [(1, pt 1 0), (15, iv (p2.length : Int)), (16, iv v14), (37, accV 2 v15.length), (39, sv 7 1 1)]) [ab 57 e57 p2, cl 24 [iv p0, iv p1, sv 0 p2.length ANY], ab 3 e3 v15, .dead, .dead, .dead, .dead, cl 3 [iv v14]] (TI.acc (l := v15) (b := 2) (ts := #[30, 30]) (e := 3) (bytes := 8) (z := iv 0) (y := sv 7 1 1) (ys := [v14]) (xs := List.flatMap e3 ([v14])) (m := 1) (s := 1) (enc := e3) (by kernel_rfl) (by kernel_rfl) (by decide) (by kernel_rfl) (by kernel_rfl) (by kernel_rfl) (by kernel_rfl) (by kernel_rfl) (by kernel_rfl) (by kernel_rfl) (by kernel_rfl) (fun _ => rfl) rfl rfl (by omega) [1, 15, 16, 40] [0, 1, 8] (a2 := (st 43 [(1, pt 1 0), (15, iv (p2.length : Int)), (16, iv v14), (40, sv 8 (List.length (v15 ++ [v14])) UNK)])) (h2 := [ab 57 e57 p2, cl 24 [iv p0, iv p1, sv 0 p2.length ANY], .dead, .dead, .dead, .dead, .dead, .dead, .cells 3 (List.flatMap e3 (v15 ++ [v14]))]) (by kernel_rfl) (TI.ra 1 [1, 5, 15, 16] (st 43 [(1, pt 1 0), (5, sv 8 (List.length (v15 ++ [v14])) UNK), (15, iv (p2.length : Int)), (16, iv v14)]) (TI.dn ?_))))
     have hF := sj hF
     subst hF
     exact TS.weak (by exact (Wk.an [1, 8] (.ac (.lt (.fl (.fl (.sl .nil))) (.cons (At.accU (by kernel_rfl) rfl (fun _ => rfl)) (.nil _)))) [pt 1 0, sv 8 (List.length (v15 ++ [v14])) UNK, iv (p2.length : Int), iv v14] (.pp (.cons (Rn.accU (nl rfl) rfl (by simp)) (.fl (.fl .nil)))))) hK
   replace hF := of_neg hF hc42
   refine TS.sk ?_
   have hF := sj hF
   subst hF
   exact TS.weak (by exact (Wk.an [1, 2] (.ac (.lt (.fl (.fl (.sl .nil))) (.ac (.nil _)))) [pt 1 0, accV 2 v15.length, iv (p2.length : Int), iv v14] (.pp (.cons (Rn.acc (nl rfl) rfl) (.fl (.fl .nil)))))) hK
 replace hF := of_neg hF hc28
 refine TS.ex 0 (NX.sqX ?_)
 have hF := sj hF
 subst hF
 exact Rd.out (e := .exit 0) (by intro h; cases h) (And.intro rfl (Wk.an [2] (.ac (.ac (.nil _))) [accV 2 v15.length] (.cons (Rn.acc (nl rfl) rfl) .nil)))
theorem B25 (p0 p1 : Int) (p2 : List I2) (r : (List Int) × Int) (hF : F25 p0 p1 p2 = some r) : TS Try.prog 1 1 c25 (st 43 [(0, ag [iv p0, iv p1, sv 0 p2.length ANY])]) [ab 57 e57 p2] (NX Try.prog 1 1 [] (FinP Try.prog Try.f25 1 (V25 1 r) (N25 1 r))) := by
 unfold F25 at hF
 refine TS.sq (TS.rg (TI.rn 3 [1] [0, 1] (st 43 [(1, pt 1 0)]) [ab 57 e57 p2, cl 24 [iv p0, iv p1, sv 0 p2.length ANY]] (TI.dn (NX.sq (TS.sq (TS.sq ?_))))))
 obtain ⟨r1, h2, hF⟩ := of_do hF
 refine TS.rg (TI.ra 1 [1, 8] (st 43 [(1, pt 1 0), (8, ag [iv p0, iv p1, sv 0 p2.length ANY])]) (TI.cp 23 [ag [iv p0, iv p1, sv 0 p2.length ANY]] (iv r1) [] (PureSim.ren (hc := [ab 57 e57 p2]) (fun i => List.getD [(0, 0)] i (0, 0)) (C23 _ _ _ _ h2) (.ac (.nil _)) (.cons (Rn.agg' (.fl (.fl (.cons (Rn.any _ _ _ _ _ _ (nl rfl) rfl rfl (by decide)) .nil)))) .nil) (.flat (by kernel_rfl)) newflat_nil) (TI.ra 1 [1, 4] (st 43 [(1, pt 1 0), (4, iv r1)]) (TI.dn (NX.sq (TS.sq (TS.rg (TI.ra 2 [1, 4, 11] (st 43 [(1, pt 1 0), (4, iv r1), (11, .bool (r1 != 0))]) ?_))))))))
 refine TI.dn (NX.sq ?_)
 refine TS.cd (.tmp 11) (r1 != 0) (fun hc3 => ?_) (fun hc3 => ?_)
 · replace hF := of_pos hF hc3
   refine TS.sq (TS.rg (TI.rn 3 [2, 3] [0] (st 43 [(2, .slice none 0 0), (3, iv r1)]) [ab 57 e57 p2, .dead] (TI.dn (NX.sq (TS.rt (NX.sqR ?_))))))
   have hF := sj hF
   subst hF
   exact ⟨.inr rfl, rfl, .tuple ⟨[.slice none 0 0, iv r1]⟩, by kernel_rfl, WkV.made (L := 1) (f := [2]) (by decide) (by decide) rfl (.cons At.accN (.nil _)) (Rn.tuple' (.cons Rn.accN (.fl .nil)))⟩
 replace hF := of_neg hF hc3
 refine TS.sk (NX.sq (TS.sq (TS.rg (TI.ra 1 [1, 5] (st 43 [(1, pt 1 0), (5, .slice none 0 0)]) (TI.dn (NX.sq (TS.sq (TS.sq ?_))))))))
 refine TS.rg (TI.ra 4 [1, 5, 15, 16] (st 43 [(1, pt 1 0), (5, .slice none 0 0), (15, iv (p2.length : Int)), (16, iv 0)]) (TI.dn (NX.sq (TS.bk 0 ?_))))
 obtain ⟨r44, h45, hF⟩ := of_do hF
 refine TS.lp (TL.weak (a2 := (st 43 [(1, pt 1 0), (5, accV 2 (List.length ([]))), (15, iv (p2.length : Int)), (16, iv 0)])) (h2 := [ab 57 e57 p2, cl 24 [iv p0, iv p1, sv 0 p2.length ANY], accB 3 (List.length ([])) (List.flatMap e3 ([]))]) (Wk.an [1, 2] (.ac (.lt (.fl (.fl (.sl .nil))) (.cons At.accN (.nil _)))) [pt 1 0, .slice none 0 0, iv (p2.length : Int), iv 0] (.pp (.cons (Rn.accN) (.fl (.fl .nil))))) (TL.post (L25l0 p0 p1 p2 ([]) 0 r44 h45) ?_))
 rintro e a1 h1 hp
 obtain ⟨rfl, hw⟩ := hp
 refine ⟨(st 43 [(5, accV 1 r44.length)]), [ab 57 e57 p2, ab 3 e3 r44], (NX.bkX (NX.sq (TS.sq (TS.rg (TI.ra 3 [2, 3] (st 43 [(2, accV 1 r44.length), (3, iv 0)]) (TI.dn (NX.sq (TS.rt ?_)))))))), hw⟩
 have hF := sj hF
 subst hF
 exact ⟨.inr rfl, rfl, .tuple ⟨[accV 1 r44.length, iv 0]⟩, by kernel_rfl, WkV.made (L := 1) (f := [1]) (by decide) (by decide) rfl (.ac (.nil _)) (Rn.tuple' (.cons (Rn.acc (nl rfl) rfl) (.fl .nil)))⟩
theorem C25 (p0 p1 : Int) (p2 : List I2) (r : (List Int) × Int) (hF : F25 p0 p1 p2 = some r) : PureSim Try.prog 25 [ag [iv p0, iv p1, sv 0 p2.length ANY]] [ab 57 e57 p2] (V25 1 r) (N25 1 r) :=
 PureSim.of_Fin Try.func25 (c := c25) (by kernel_rfl) (by kernel_rfl) 1 rfl [0] [0] (by kernel_rfl) (B25 p0 p1 p2 r hF)
end
end Go.Proofs.Ytdekbjfjbbdjgaa
