/- What functions of the program compute, and that they do. -/
import Derived.Test.YtiaippkjgmccoaaKQ
set_option linter.unusedVariables false
set_option linter.unusedSimpArgs false
set_option maxRecDepth 100000
set_option maxHeartbeats 4000000
namespace Go.Proofs.Ytiaippkjgmccoaa
open Go Go.Cl
noncomputable section
noncomputable def c85 : Code := Try.f85.code
def F85 (p0 : Int) (p1 : Bool) (p2 : (List Bool)) : Option Bool :=
 some (decide (p0 < (p2.length : Int)))
def V85 (b : Nat) (r : Bool) : Value := .bool r
def N85 (b : Nat) (r : Bool) : List Blk := []
theorem B85 (p0 : Int) (p1 : Bool) (p2 : (List Bool)) (r : Bool) (hF : F85 p0 p1 p2 = some r) : TS Try.prog 2 2 c85 (st 9 [(0, ag [iv p0, .bool p1]), (1, pt 0 0)]) [cl 26 [sv 1 p2.length ANY], ab 4 e4 p2] (NX Try.prog 2 2 [] (FinP Try.prog Try.f85 2 (V85 2 r) (N85 2 r))) := by
 unfold F85 at hF
 refine TS.sq (TS.rg (TI.rn 2 [1, 2] [0, 1, 2] (st 9 [(1, pt 0 0), (2, pt 2 0)]) [cl 26 [sv 1 p2.length ANY], ab 4 e4 p2, cl 50 [iv p0, .bool p1]] (TI.dn (NX.sq (TS.sq (TS.rg (TI.rn 6 [3] [0, 1] (st 9 [(3, .bool (decide (p0 < (p2.length : Int))))]) [cl 26 [sv 1 p2.length ANY], ab 4 e4 p2, .dead] (TI.dn ?_))))))))
 refine NX.sq (TS.rt ?_)
 have hF := Option.some.inj hF
 subst hF
 exact ⟨.inr rfl, rfl, .bool (decide (p0 < (p2.length : Int))), by kernel_rfl, WkV.flat0 (by kernel_rfl) (Nat.le_of_ble_eq_true rfl)⟩
theorem C85 (p0 : Int) (p1 : Bool) (p2 : (List Bool)) (r : Bool) (hF : F85 p0 p1 p2 = some r) : PureSim Try.prog 85 [ag [iv p0, .bool p1], pt 0 0] [cl 26 [sv 1 p2.length ANY], ab 4 e4 p2] (V85 2 r) (N85 2 r) :=
 PureSim.of_Fin Try.func85 (c := c85) (by kernel_rfl) (by kernel_rfl) 2 rfl [0, 1] [0, 1] (by kernel_rfl) (B85 p0 p1 p2 r hF)
noncomputable def c78 : Code := Try.f78.code
def S78_0 (p3 : (List (Int × Bool))) (p1 : (List ((Int × Bool) × (Int × Bool)))) (v16 : Int) (o35 : ((Int × Bool) × (Int × Bool))) (p2 : (List Bool)) : CAct := (st 82 [(2, sv 2 p3.length ANY), (3, pt 3 0), (4, pt 4 0), (7, .func (.func 85) ⟨[]⟩ ⟨[pt 4 0]⟩), (9, pt 5 0), (15, sv 0 p1.length ANY), (16, iv (p1.length : Int)), (17, iv v16), (31, .bool true), (33, ag [iv o35.1.1, .bool o35.1.2]), (34, sv 1 p2.length ANY)])
def H78_1 (p1 : (List ((Int × Bool) × (Int × Bool)))) (p2 : (List Bool)) (p3 : (List (Int × Bool))) (p0 : Int) : List Blk := [ab 86 e86 p1, ab 4 e4 p2, ab 50 e50 p3, cl 24 [iv p0, sv 0 p1.length ANY], .dead, cl 4 [.bool false], .cells 4 (List.flatMap e4 (p2 ++ [false])), cl 4 [.bool true], .cells 4 (List.flatMap e4 (p2 ++ [true]))]
def S78_2 (p3 : (List (Int × Bool))) (p1 : (List ((Int × Bool) × (Int × Bool)))) (v16 : Int) (o35 : ((Int × Bool) × (Int × Bool))) : CAct := (st 82 [(2, sv 2 p3.length ANY), (3, pt 3 0), (4, pt 4 0), (7, .func (.func 85) ⟨[]⟩ ⟨[pt 4 0]⟩), (9, pt 5 0), (15, sv 0 p1.length ANY), (16, iv (p1.length : Int)), (17, iv v16), (25, .bool true), (26, .func (.func 85) ⟨[]⟩ ⟨[pt 4 0]⟩), (28, ag [iv o35.2.1, .bool o35.2.2])])
def H78_3 (p1 : (List ((Int × Bool) × (Int × Bool)))) (p2 : (List Bool)) (p3 : (List (Int × Bool))) (p0 : Int) (o35 : ((Int × Bool) × (Int × Bool))) : List Blk := [ab 86 e86 p1, ab 4 e4 p2, ab 50 e50 p3, cl 24 [iv p0, sv 0 p1.length ANY], cl 26 [sv 1 p2.length ANY], cl 86 [iv o35.1.1, .bool o35.1.2, iv o35.2.1, .bool o35.2.2]]
def S78_4 (p3 : (List (Int × Bool))) (p1 : (List ((Int × Bool) × (Int × Bool)))) (v16 : Int) (o35 : ((Int × Bool) × (Int × Bool))) : CAct := (st 82 [(2, sv 2 p3.length ANY), (3, pt 3 0), (4, pt 4 0), (7, .func (.func 85) ⟨[]⟩ ⟨[pt 4 0]⟩), (9, pt 5 0), (15, sv 0 p1.length ANY), (16, iv (p1.length : Int)), (17, iv v16), (21, .func (.func 85) ⟨[]⟩ ⟨[pt 4 0]⟩), (23, ag [iv o35.1.1, .bool o35.1.2])])
def S78_5 (p3 : (List (Int × Bool))) (v62 : Int) (o76 : (Int × Bool)) : CAct := (st 82 [(2, sv 2 p3.length ANY), (3, pt 3 0), (4, pt 4 0), (7, .func (.func 85) ⟨[]⟩ ⟨[pt 4 0]⟩), (11, pt 5 0), (46, sv 2 p3.length ANY), (47, iv (p3.length : Int)), (48, iv v62), (52, .func (.func 85) ⟨[]⟩ ⟨[pt 4 0]⟩), (53, ag [iv o76.1, .bool o76.2])])
def H78_6 (p1 : (List ((Int × Bool) × (Int × Bool)))) (p2 : (List Bool)) (p3 : (List (Int × Bool))) (p0 : Int) : List Blk := [ab 86 e86 p1, ab 4 e4 p2, ab 50 e50 p3, cl 24 [iv p0, sv 0 p1.length ANY], .dead, cl 4 [.bool false], .cells 4 (List.flatMap e4 (p2 ++ [false])), cl 4 [.bool true]]
def S78_7 (p3 : (List (Int × Bool))) (p1 : (List ((Int × Bool) × (Int × Bool)))) (v16 : Int) (r41 : Bool) : CAct := (st 82 [(2, sv 2 p3.length ANY), (3, pt 3 0), (4, pt 4 0), (7, .func (.func 85) ⟨[]⟩ ⟨[pt 4 0]⟩), (9, pt 5 0), (15, sv 0 p1.length ANY), (16, iv (p1.length : Int)), (17, iv v16), (31, .bool true), (35, .bool r41)])
def H78_8 (p1 : (List ((Int × Bool) × (Int × Bool)))) (p2 : (List Bool)) (p3 : (List (Int × Bool))) (p0 : Int) : List Blk := [ab 86 e86 p1, ab 4 e4 p2, ab 50 e50 p3, cl 24 [iv p0, sv 0 p1.length ANY], .dead, cl 4 [.bool false], .cells 4 (List.flatMap e4 (p2 ++ [false]))]
def H78_9 (p1 : (List ((Int × Bool) × (Int × Bool)))) (p2 : (List Bool)) (p3 : (List (Int × Bool))) (p0 : Int) : List Blk := [ab 86 e86 p1, ab 4 e4 p2, ab 50 e50 p3, cl 24 [iv p0, sv 0 p1.length ANY], cl 26 [sv 1 p2.length ANY], .dead]
def H78_10 (p1 : (List ((Int × Bool) × (Int × Bool)))) (p2 : (List Bool)) (p3 : (List (Int × Bool))) (p0 : Int) : List Blk := [ab 86 e86 p1, ab 4 e4 p2, ab 50 e50 p3, cl 24 [iv p0, sv 0 p1.length ANY], cl 26 [sv 1 p2.length ANY]]
def S78_11 (p3 : (List (Int × Bool))) (p1 : (List ((Int × Bool) × (Int × Bool)))) (v16 : Int) : CAct := (st 82 [(2, sv 2 p3.length ANY), (3, pt 3 0), (4, pt 4 0), (7, .func (.func 85) ⟨[]⟩ ⟨[pt 4 0]⟩), (15, sv 0 p1.length ANY), (16, iv (p1.length : Int)), (17, iv v16), (44, .bool false)])
def S78_12 (p3 : (List (Int × Bool))) (p1 : (List ((Int × Bool) × (Int × Bool)))) (v16 : Int) : CAct := (st 82 [(2, sv 2 p3.length ANY), (3, pt 3 0), (4, pt 4 0), (7, .func (.func 85) ⟨[]⟩ ⟨[pt 4 0]⟩), (15, sv 0 p1.length ANY), (16, iv (p1.length : Int)), (17, iv (w64 (v16 + 1)))])
def S78_13 (p3 : (List (Int × Bool))) (v62 : Int) : CAct := (st 82 [(2, sv 2 p3.length ANY), (3, pt 3 0), (4, pt 4 0), (7, .func (.func 85) ⟨[]⟩ ⟨[pt 4 0]⟩), (46, sv 2 p3.length ANY), (47, iv (p3.length : Int)), (48, iv (w64 (v62 + 1)))])
def H78_14 (p1 : (List ((Int × Bool) × (Int × Bool)))) (p2 : (List Bool)) (p3 : (List (Int × Bool))) (p0 : Int) : List Blk := [ab 86 e86 p1, ab 4 e4 p2, ab 50 e50 p3, cl 24 [iv p0, sv 0 p1.length ANY], .dead, cl 4 [.bool false]]
def S78_15 (p3 : (List (Int × Bool))) (p1 : (List ((Int × Bool) × (Int × Bool)))) (v16 : Int) : CAct := (st 82 [(2, sv 2 p3.length ANY), (3, pt 3 0), (4, pt 4 0), (7, .func (.func 85) ⟨[]⟩ ⟨[pt 4 0]⟩), (15, sv 0 p1.length ANY), (16, iv (p1.length : Int)), (17, iv v16)])
def S78_16 (p3 : (List (Int × Bool))) (v62 : Int) : CAct := (st 82 [(2, sv 2 p3.length ANY), (3, pt 3 0), (4, pt 4 0), (7, .func (.func 85) ⟨[]⟩ ⟨[pt 4 0]⟩), (46, sv 2 p3.length ANY), (47, iv (p3.length : Int)), (48, iv v62)])
def S78_17 (p3 : (List (Int × Bool))) (p1 : (List ((Int × Bool) × (Int × Bool)))) : CAct := (st 82 [(2, sv 2 p3.length ANY), (3, pt 3 0), (4, pt 4 0), (7, .func (.func 85) ⟨[]⟩ ⟨[pt 4 0]⟩), (15, sv 0 p1.length ANY), (16, iv (p1.length : Int)), (17, iv 0)])
def S78_18 (p3 : (List (Int × Bool))) : CAct := (st 82 [(2, sv 2 p3.length ANY), (3, pt 3 0), (4, pt 4 0), (7, .func (.func 85) ⟨[]⟩ ⟨[pt 4 0]⟩), (46, sv 2 p3.length ANY), (47, iv (p3.length : Int)), (48, iv 0)])
def H78_19 (p1 : (List ((Int × Bool) × (Int × Bool)))) (p2 : (List Bool)) (p3 : (List (Int × Bool))) (p0 : Int) : List Blk := [ab 86 e86 p1, ab 4 e4 p2, ab 50 e50 p3, cl 24 [iv p0, sv 0 p1.length ANY], .dead]
def H78_20 (p1 : (List ((Int × Bool) × (Int × Bool)))) (p2 : (List Bool)) (p3 : (List (Int × Bool))) : List Blk := [ab 86 e86 p1, ab 4 e4 p2, ab 50 e50 p3]
def S78_21 (p3 : (List (Int × Bool))) : CAct := (st 82 [(2, sv 2 p3.length ANY), (3, pt 3 0), (4, pt 4 0), (7, .func (.func 85) ⟨[]⟩ ⟨[pt 4 0]⟩)])
def H78_22 (p2 : (List Bool)) : List Blk := [cl 26 [sv 1 p2.length ANY], ab 4 e4 p2]
def S78_23 (p3 : (List (Int × Bool))) : CAct := (st 82 [(2, sv 2 p3.length ANY), (3, pt 3 0), (4, pt 4 0)])
def V78 (b : Nat) (r : Int) : Value := iv r
def N78 (b : Nat) (r : Int) : List Blk := []
def F78l0 (p0 : Int) (p1 : (List ((Int × Bool) × (Int × Bool)))) (p2 : (List Bool)) (p3 : (List (Int × Bool))) (v16 : Int) : Option (Unit ⊕ Unit) :=
 if decide (v16 < (p1.length : Int)) then
  if (0 : Int) ≤ v16 ∧ v16 < (p1.length : Int) then
   some (List.getD p1 (Int.toNat v16) ((0, false), (0, false))) >>= fun o35 =>
   F85 o35.1.1 o35.1.2 p2 >>= fun r37 =>
   (
    if r37 then
     F85 o35.2.1 o35.2.2 p2 >>= fun r39 =>
     if r39 then
      F62 o35.1.1 o35.1.2 p2 >>= fun r41 =>
      if !r41 then
       F62 o35.2.1 o35.2.2 p2 >>= fun r44 =>
       some (!r44)
      else
       some (false)
     else
      some (false)
    else
     some (false)
   : Option Bool) >>= fun m46 =>
   if m46 then
    some (.inl ())
   else
    F78l0 p0 p1 p2 p3 (w64 (v16 + 1))
  else none
 else
  some (.inr ())
 partial_fixpoint
def F78l1 (p0 : Int) (p1 : (List ((Int × Bool) × (Int × Bool)))) (p2 : (List Bool)) (p3 : (List (Int × Bool))) (v62 : Int) : Option (Unit ⊕ Unit) :=
 if decide (v62 < (p3.length : Int)) then
  if (0 : Int) ≤ v62 ∧ v62 < (p3.length : Int) then
   some (List.getD p3 (Int.toNat v62) (0, false)) >>= fun o76 =>
   F85 o76.1 o76.2 p2 >>= fun r78 =>
   (
    if r78 then
     F62 o76.1 o76.2 p2 >>= fun r80 =>
     some (!r80)
    else
     some (false)
   : Option Bool) >>= fun m82 =>
   if m82 then
    some (.inl ())
   else
    F78l1 p0 p1 p2 p3 (w64 (v62 + 1))
  else none
 else
  some (.inr ())
 partial_fixpoint
def F78b (rec78 : Int → (List ((Int × Bool) × (Int × Bool))) → (List Bool) → (List (Int × Bool)) → Option Int) (p0 : Int) (p1 : (List ((Int × Bool) × (Int × Bool)))) (p2 : (List Bool)) (p3 : (List (Int × Bool))) : Option Int :=
 F78l0 p0 p1 p2 p3 0 >>= fun r48 =>
 match r48 with
 | .inl o50 =>
  some 0
 | .inr o51 =>
  F78l1 p0 p1 p2 p3 0 >>= fun r84 =>
  match r84 with
  | .inl o86 =>
   some 0
  | .inr o87 =>
   if (p2.length : Int) == p0 then
    some 1
   else
    if List.length p2 ≤ 1000000000 then
     rec78 p0 p1 (p2 ++ [false]) p3 >>= fun r90 =>
     rec78 p0 p1 (p2 ++ [true]) p3 >>= fun r92 =>
     some (w64 (r90 + r92))
    else none
def F78 : Nat → Int → (List ((Int × Bool) × (Int × Bool))) → (List Bool) → (List (Int × Bool)) → Option Int
 | 0 => fun _ _ _ _ => none
 | k + 1 => F78b (F78 k)
def P78l0 (p0 : Int) (p1 : (List ((Int × Bool) × (Int × Bool)))) (p2 : (List Bool)) (p3 : (List (Int × Bool))) (r : (Unit ⊕ Unit)) : Post := fun e a h => (match r with | .inl q0 => e = .ret ∧ Wk Try.prog 3 3 a h (st 82 [(6, iv 0)]) (H78_20 p1 p2 p3) | .inr q0 => e = .exit 0 ∧ Wk Try.prog 3 3 a h (S78_21 p3) (H78_10 p1 p2 p3 p0))
theorem L78l0 (p0 : Int) (p1 : (List ((Int × Bool) × (Int × Bool)))) (p2 : (List Bool)) (p3 : (List (Int × Bool))) (v16 : Int) (r : (Unit ⊕ Unit)) (hF : F78l0 p0 p1 p2 p3 v16 = some r) : TL Try.prog 3 3 c78.s2.s2.s1.s2.bd.bd (S78_15 p3 p1 v16) (H78_10 p1 p2 p3 p0) (P78l0 p0 p1 p2 p3 r) := by
 refine F78l0.partial_correctness p0 p1 p2 p3 (motive := fun v16 r => TL Try.prog 3 3 c78.s2.s2.s1.s2.bd.bd (S78_15 p3 p1 v16) (H78_10 p1 p2 p3 p0) (P78l0 p0 p1 p2 p3 r)) ?_ v16 r hF
 clear hF r v16
 intro again ih v16 r hF
 refine TL.round (TS.sq (TS.rg (TI.ra 1 [2, 3, 4, 7, 15, 16, 17, 18] (st 82 [(2, sv 2 p3.length ANY), (3, pt 3 0), (4, pt 4 0), (7, .func (.func 85) ⟨[]⟩ ⟨[pt 4 0]⟩), (15, sv 0 p1.length ANY), (16, iv (p1.length : Int)), (17, iv v16), (18, .bool (decide (v16 < (p1.length : Int))))]) (TI.dn (NX.sq (TS.sq ?_))))))
 refine TS.cd (.tmp 18) (decide (v16 < (p1.length : Int))) (fun hc33 => ?_) (fun hc33 => ?_)
 · replace hF := of_pos hF hc33
   refine TS.sk (NX.sq (TS.sq (TS.bk 1 (TS.sq ?_))))
   have hX := of_guard hF
   clear hF
   obtain ⟨hg34, hF⟩ := hX
   have hX := of_do hF
   clear hF
   obtain ⟨o35, h36, hF⟩ := hX
   replace h36 := Option.some.inj h36
   refine TS.rg (TI.o { val := .pointer (some ⟨0, 0 + (Int.toNat v16) * 4, none⟩) } (q_ixS 0 0 ((Int.toNat v16) * 4) (by kernel_rfl) hg34) [2, 3, 4, 7, 15, 16, 17, 19] [0, 1, 2, 3, 4] (st 82 [(2, sv 2 p3.length ANY), (3, pt 3 0), (4, pt 4 0), (7, .func (.func 85) ⟨[]⟩ ⟨[pt 4 0]⟩), (15, sv 0 p1.length ANY), (16, iv (p1.length : Int)), (17, iv v16), (19, .pointer (some ⟨0, 0 + (Int.toNat v16) * 4, none⟩))]) (H78_10 p1 p2 p3 p0) (TI.o { val := ag [iv o35.1.1, .bool o35.1.2, iv o35.2.1, .bool o35.2.2] } (q_nAa Try.prog (H78_10 p1 p2 p3 p0) 86 0 (0 + (Int.toNat v16) * 4) p1 e86 4 86 (Int.toNat v16) ((0, false), (0, false)) h36) [2, 3, 4, 7, 15, 16, 17, 20] [0, 1, 2, 3, 4] (st 82 [(2, sv 2 p3.length ANY), (3, pt 3 0), (4, pt 4 0), (7, .func (.func 85) ⟨[]⟩ ⟨[pt 4 0]⟩), (15, sv 0 p1.length ANY), (16, iv (p1.length : Int)), (17, iv v16), (20, ag [iv o35.1.1, .bool o35.1.2, iv o35.2.1, .bool o35.2.2])]) (H78_10 p1 p2 p3 p0) (TI.rn 2 [2, 3, 4, 7, 9, 15, 16, 17] [0, 1, 2, 3, 4, 5] (st 82 [(2, sv 2 p3.length ANY), (3, pt 3 0), (4, pt 4 0), (7, .func (.func 85) ⟨[]⟩ ⟨[pt 4 0]⟩), (9, pt 5 0), (15, sv 0 p1.length ANY), (16, iv (p1.length : Int)), (17, iv v16)]) (H78_3 p1 p2 p3 p0 o35) (TI.dn (NX.sq (TS.sq ?_))))))
   have hX := of_do hF
   clear hF
   obtain ⟨r37, h38, hF⟩ := hX
   have hX := of_do hF
   clear hF
   obtain ⟨m46, hm47, hF⟩ := hX
   have hK : NX Try.prog 3 3 [.sq c78.s2.s2.s1.s2.bd.bd.s2.s2.s1.bd.s2.s2, .bk 1, .sq c78.s2.s2.s1.s2.bd.bd.s2.s2.s2] (Rd Try.prog 3 3 c78.s2.s2.s1.s2.bd.bd (P78l0 p0 p1 p2 p3 r)) .normal (st 82 [(2, sv 2 p3.length ANY), (3, pt 3 0), (4, pt 4 0), (7, .func (.func 85) ⟨[]⟩ ⟨[pt 4 0]⟩), (15, sv 0 p1.length ANY), (16, iv (p1.length : Int)), (17, iv v16), (44, .bool m46)]) (H78_9 p1 p2 p3 p0) := by
    refine NX.sq ?_
    cases m46 with
    | true =>
     replace hF := of_pos hF rfl
     refine TS.cdT (.tmp 44) (TS.sq (TS.rg (TI.rn 1 [6] [0, 1, 2] (st 82 [(6, iv 0)]) [ab 86 e86 p1, ab 4 e4 p2, ab 50 e50 p3, .dead, .dead, .dead] (TI.dn (NX.sq (TS.rt (NX.bkR (NX.sqR ?_))))))))
     have hF := Option.some.inj hF
     subst hF
     exact Rd.out (e := .ret) (by intro h; cases h) (And.intro rfl (Wk.an [] (.ac (.ac (.ac (.nil _)))) [iv 0] (.fl .nil)))
    | false =>
     replace hF := of_neg hF rfl
     refine TS.cdF (.tmp 44) (TS.sk (NX.bk (NX.sq (TS.rg (TI.ra 2 [2, 3, 4, 7, 15, 16, 17] (S78_12 p3 p1 v16) (TI.dn ?_))))))
     exact Rd.again (a2 := (S78_12 p3 p1 v16)) (h2 := (H78_10 p1 p2 p3 p0)) (Wk.an [3, 4] (.ac (.ac (.ac (.lt (.fl (.sl .nil)) (.lt (.sl .nil) (.nil _)))))) [sv 2 p3.length ANY, pt 3 0, pt 4 0, .func (.func 85) ⟨[]⟩ ⟨[pt 4 0]⟩, sv 0 p1.length ANY, iv (p1.length : Int), iv (w64 (v16 + 1))] (.sl (.pp (.pp (.cons (Rn.func' .nil (.pp .nil)) (.sl (.fl (.fl .nil)))))))) (ih (w64 (v16 + 1)) _ hF)
   cases r37 with
   | true =>
    replace hm47 := of_pos hm47 rfl
    have hX := of_do hm47
    clear hm47
    obtain ⟨r39, h40, hm47⟩ := hX
    cases r39 with
    | true =>
     replace hm47 := of_pos hm47 rfl
     have hX := of_do hm47
     clear hm47
     obtain ⟨r41, h42, hm47⟩ := hX
     rcases Bool.eq_false_or_eq_true (!r41) with hc43 | hc43
     · replace hm47 := of_pos hm47 hc43
       have hX := of_do hm47
       clear hm47
       obtain ⟨r44, h45, hm47⟩ := hX
       have hm47 := Option.some.inj hm47
       subst hm47
       refine TS.rg (TI.ra 3 [2, 3, 4, 7, 9, 15, 16, 17, 21, 23] (S78_4 p3 p1 v16 o35) (TI.cp 85 [ag [iv o35.1.1, .bool o35.1.2], pt 4 0] (.bool true) [] (PureSim.ren (hc := (H78_22 p2)) (fun i => List.getD [(4, 0), (1, 0)] i (0, 0)) (C85 _ _ _ _ h38) (.cons (At.blk (b1 := cl 26 [sv 1 p2.length ANY]) (by kernel_rfl) (RnB.lit (.cons (Rn.any _ _ _ _ _ _ (Nat.le_of_ble_eq_true rfl) rfl rfl (by decide)) .nil))) (.ac (.nil _))) (.fl (.pp .nil)) (.flat (by kernel_rfl)) newflat_nil) (TI.ra 4 [2, 3, 4, 7, 9, 15, 16, 17, 25, 26, 28] (S78_2 p3 p1 v16 o35) (TI.cp 85 [ag [iv o35.2.1, .bool o35.2.2], pt 4 0] (.bool true) [] (PureSim.ren (hc := (H78_22 p2)) (fun i => List.getD [(4, 0), (1, 0)] i (0, 0)) (C85 _ _ _ _ h40) (.cons (At.blk (b1 := cl 26 [sv 1 p2.length ANY]) (by kernel_rfl) (RnB.lit (.cons (Rn.any _ _ _ _ _ _ (Nat.le_of_ble_eq_true rfl) rfl rfl (by decide)) .nil))) (.ac (.nil _))) (.fl (.pp .nil)) (.flat (by kernel_rfl)) newflat_nil) (TI.ra 5 [2, 3, 4, 7, 9, 15, 16, 17, 31, 33, 34] (S78_0 p3 p1 v16 o35 p2) (TI.callM (g := 62) (args := [ag [iv o35.1.1, .bool o35.1.2], sv 1 p2.length ANY]) (v := .bool r41) (new := []) (by kernel_rfl) (PureSim.ren (hc := [ab 4 e4 p2]) (fun i => List.getD [(1, 0)] i (0, 0)) (C62 _ _ _ _ h42) (.ac (.nil _)) (.fl (.cons (Rn.any _ _ _ _ _ _ (Nat.le_of_ble_eq_true rfl) rfl rfl (by decide)) .nil)) (.flat (by kernel_rfl)) newflat_nil) [2, 3, 4, 7, 9, 15, 16, 17, 31, 35] [0, 1, 2, 3, 4, 5] (a2 := (S78_7 p3 p1 v16 r41)) (h2 := (H78_3 p1 p2 p3 p0 o35)) (by kernel_rfl) (TI.o { val := .bool true } (q_conv (e := !r41) (b := true) (by kernel_rfl) hc43) [2, 3, 4, 7, 9, 15, 16, 17, 31, 36] [0, 1, 2, 3, 4, 5] (st 82 [(2, sv 2 p3.length ANY), (3, pt 3 0), (4, pt 4 0), (7, .func (.func 85) ⟨[]⟩ ⟨[pt 4 0]⟩), (9, pt 5 0), (15, sv 0 p1.length ANY), (16, iv (p1.length : Int)), (17, iv v16), (31, .bool true), (36, .bool true)]) (H78_3 p1 p2 p3 p0 o35) (TI.rn 5 [2, 3, 4, 7, 15, 16, 17, 38, 40, 41] [0, 1, 2, 3, 4] (st 82 [(2, sv 2 p3.length ANY), (3, pt 3 0), (4, pt 4 0), (7, .func (.func 85) ⟨[]⟩ ⟨[pt 4 0]⟩), (15, sv 0 p1.length ANY), (16, iv (p1.length : Int)), (17, iv v16), (38, .bool true), (40, ag [iv o35.2.1, .bool o35.2.2]), (41, sv 1 p2.length ANY)]) (H78_9 p1 p2 p3 p0) ?_))))))))
       exact TI.cp 62 [ag [iv o35.2.1, .bool o35.2.2], sv 1 p2.length ANY] (.bool r44) [] (PureSim.ren (hc := [ab 4 e4 p2]) (fun i => List.getD [(1, 0)] i (0, 0)) (C62 _ _ _ _ h45) (.ac (.nil _)) (.fl (.cons (Rn.any _ _ _ _ _ _ (Nat.le_of_ble_eq_true rfl) rfl rfl (by decide)) .nil)) (.flat (by kernel_rfl)) newflat_nil) (TI.ra 2 [2, 3, 4, 7, 15, 16, 17, 44] (st 82 [(2, sv 2 p3.length ANY), (3, pt 3 0), (4, pt 4 0), (7, .func (.func 85) ⟨[]⟩ ⟨[pt 4 0]⟩), (15, sv 0 p1.length ANY), (16, iv (p1.length : Int)), (17, iv v16), (44, .bool (!r44))]) (TI.dn hK))
     replace hm47 := of_neg hm47 hc43
     have hm47 := Option.some.inj hm47
     subst hm47
     refine TS.rg (TI.ra 3 [2, 3, 4, 7, 9, 15, 16, 17, 21, 23] (S78_4 p3 p1 v16 o35) (TI.cp 85 [ag [iv o35.1.1, .bool o35.1.2], pt 4 0] (.bool true) [] (PureSim.ren (hc := (H78_22 p2)) (fun i => List.getD [(4, 0), (1, 0)] i (0, 0)) (C85 _ _ _ _ h38) (.cons (At.blk (b1 := cl 26 [sv 1 p2.length ANY]) (by kernel_rfl) (RnB.lit (.cons (Rn.any _ _ _ _ _ _ (Nat.le_of_ble_eq_true rfl) rfl rfl (by decide)) .nil))) (.ac (.nil _))) (.fl (.pp .nil)) (.flat (by kernel_rfl)) newflat_nil) (TI.ra 4 [2, 3, 4, 7, 9, 15, 16, 17, 25, 26, 28] (S78_2 p3 p1 v16 o35) (TI.cp 85 [ag [iv o35.2.1, .bool o35.2.2], pt 4 0] (.bool true) [] (PureSim.ren (hc := (H78_22 p2)) (fun i => List.getD [(4, 0), (1, 0)] i (0, 0)) (C85 _ _ _ _ h40) (.cons (At.blk (b1 := cl 26 [sv 1 p2.length ANY]) (by kernel_rfl) (RnB.lit (.cons (Rn.any _ _ _ _ _ _ (Nat.le_of_ble_eq_true rfl) rfl rfl (by decide)) .nil))) (.ac (.nil _))) (.fl (.pp .nil)) (.flat (by kernel_rfl)) newflat_nil) (TI.ra 5 [2, 3, 4, 7, 9, 15, 16, 17, 31, 33, 34] (S78_0 p3 p1 v16 o35 p2) (TI.callM (g := 62) (args := [ag [iv o35.1.1, .bool o35.1.2], sv 1 p2.length ANY]) (v := .bool r41) (new := []) (by kernel_rfl) (PureSim.ren (hc := [ab 4 e4 p2]) (fun i => List.getD [(1, 0)] i (0, 0)) (C62 _ _ _ _ h42) (.ac (.nil _)) (.fl (.cons (Rn.any _ _ _ _ _ _ (Nat.le_of_ble_eq_true rfl) rfl rfl (by decide)) .nil)) (.flat (by kernel_rfl)) newflat_nil) [2, 3, 4, 7, 9, 15, 16, 17, 31, 35] [0, 1, 2, 3, 4, 5] (a2 := (S78_7 p3 p1 v16 r41)) (h2 := (H78_3 p1 p2 p3 p0 o35)) (by kernel_rfl) (TI.o { val := .bool false } (q_conv (e := !r41) (b := false) (by kernel_rfl) hc43) [2, 3, 4, 7, 9, 15, 16, 17, 31, 36] [0, 1, 2, 3, 4, 5] (st 82 [(2, sv 2 p3.length ANY), (3, pt 3 0), (4, pt 4 0), (7, .func (.func 85) ⟨[]⟩ ⟨[pt 4 0]⟩), (9, pt 5 0), (15, sv 0 p1.length ANY), (16, iv (p1.length : Int)), (17, iv v16), (31, .bool true), (36, .bool false)]) (H78_3 p1 p2 p3 p0 o35) (TI.rn 8 [2, 3, 4, 7, 15, 16, 17, 44] [0, 1, 2, 3, 4] (S78_11 p3 p1 v16) (H78_9 p1 p2 p3 p0) ?_))))))))
     exact TI.dn hK
    | false =>
     replace hm47 := of_neg hm47 rfl
     have hm47 := Option.some.inj hm47
     subst hm47
     exact TS.rg (TI.ra 3 [2, 3, 4, 7, 9, 15, 16, 17, 21, 23] (S78_4 p3 p1 v16 o35) (TI.cp 85 [ag [iv o35.1.1, .bool o35.1.2], pt 4 0] (.bool true) [] (PureSim.ren (hc := (H78_22 p2)) (fun i => List.getD [(4, 0), (1, 0)] i (0, 0)) (C85 _ _ _ _ h38) (.cons (At.blk (b1 := cl 26 [sv 1 p2.length ANY]) (by kernel_rfl) (RnB.lit (.cons (Rn.any _ _ _ _ _ _ (Nat.le_of_ble_eq_true rfl) rfl rfl (by decide)) .nil))) (.ac (.nil _))) (.fl (.pp .nil)) (.flat (by kernel_rfl)) newflat_nil) (TI.ra 4 [2, 3, 4, 7, 9, 15, 16, 17, 25, 26, 28] (S78_2 p3 p1 v16 o35) (TI.cp 85 [ag [iv o35.2.1, .bool o35.2.2], pt 4 0] (.bool false) [] (PureSim.ren (hc := (H78_22 p2)) (fun i => List.getD [(4, 0), (1, 0)] i (0, 0)) (C85 _ _ _ _ h40) (.cons (At.blk (b1 := cl 26 [sv 1 p2.length ANY]) (by kernel_rfl) (RnB.lit (.cons (Rn.any _ _ _ _ _ _ (Nat.le_of_ble_eq_true rfl) rfl rfl (by decide)) .nil))) (.ac (.nil _))) (.fl (.pp .nil)) (.flat (by kernel_rfl)) newflat_nil) (TI.rn 15 [2, 3, 4, 7, 15, 16, 17, 44] [0, 1, 2, 3, 4] (S78_11 p3 p1 v16) (H78_9 p1 p2 p3 p0) (TI.dn hK))))))
   | false =>
    replace hm47 := of_neg hm47 rfl
    have hm47 := Option.some.inj hm47
    subst hm47
    exact TS.rg (TI.ra 3 [2, 3, 4, 7, 9, 15, 16, 17, 21, 23] (S78_4 p3 p1 v16 o35) (TI.cp 85 [ag [iv o35.1.1, .bool o35.1.2], pt 4 0] (.bool false) [] (PureSim.ren (hc := (H78_22 p2)) (fun i => List.getD [(4, 0), (1, 0)] i (0, 0)) (C85 _ _ _ _ h38) (.cons (At.blk (b1 := cl 26 [sv 1 p2.length ANY]) (by kernel_rfl) (RnB.lit (.cons (Rn.any _ _ _ _ _ _ (Nat.le_of_ble_eq_true rfl) rfl rfl (by decide)) .nil))) (.ac (.nil _))) (.fl (.pp .nil)) (.flat (by kernel_rfl)) newflat_nil) (TI.rn 20 [2, 3, 4, 7, 15, 16, 17, 44] [0, 1, 2, 3, 4] (S78_11 p3 p1 v16) (H78_9 p1 p2 p3 p0) (TI.dn hK))))
 replace hF := of_neg hF hc33
 refine TS.ex 0 (NX.sqX ?_)
 have hF := Option.some.inj hF
 subst hF
 exact Rd.out (e := .exit 0) (by intro h; cases h) (And.intro rfl (Wk.an [3, 4] (.ac (.ac (.ac (.lt (.fl (.sl .nil)) (.lt (.sl .nil) (.nil _)))))) [sv 2 p3.length ANY, pt 3 0, pt 4 0, .func (.func 85) ⟨[]⟩ ⟨[pt 4 0]⟩] (.sl (.pp (.pp (.cons (Rn.func' .nil (.pp .nil)) .nil))))))
def P78l1 (p0 : Int) (p1 : (List ((Int × Bool) × (Int × Bool)))) (p2 : (List Bool)) (p3 : (List (Int × Bool))) (r : (Unit ⊕ Unit)) : Post := fun e a h => (match r with | .inl q0 => e = .ret ∧ Wk Try.prog 3 3 a h (st 82 [(6, iv 0)]) (H78_20 p1 p2 p3) | .inr q0 => e = .exit 2 ∧ Wk Try.prog 3 3 a h (S78_23 p3) (H78_10 p1 p2 p3 p0))
theorem L78l1 (p0 : Int) (p1 : (List ((Int × Bool) × (Int × Bool)))) (p2 : (List Bool)) (p3 : (List (Int × Bool))) (v62 : Int) (r : (Unit ⊕ Unit)) (hF : F78l1 p0 p1 p2 p3 v62 = some r) : TL Try.prog 3 3 c78.s2.s2.s2.s1.s2.bd.bd (S78_16 p3 v62) (H78_10 p1 p2 p3 p0) (P78l1 p0 p1 p2 p3 r) := by
 refine F78l1.partial_correctness p0 p1 p2 p3 (motive := fun v62 r => TL Try.prog 3 3 c78.s2.s2.s2.s1.s2.bd.bd (S78_16 p3 v62) (H78_10 p1 p2 p3 p0) (P78l1 p0 p1 p2 p3 r)) ?_ v62 r hF
 clear hF r v62
 intro again ih v62 r hF
 refine TL.round (TS.sq (TS.rg (TI.ra 1 [2, 3, 4, 7, 46, 47, 48, 49] (st 82 [(2, sv 2 p3.length ANY), (3, pt 3 0), (4, pt 4 0), (7, .func (.func 85) ⟨[]⟩ ⟨[pt 4 0]⟩), (46, sv 2 p3.length ANY), (47, iv (p3.length : Int)), (48, iv v62), (49, .bool (decide (v62 < (p3.length : Int))))]) (TI.dn (NX.sq (TS.sq ?_))))))
 refine TS.cd (.tmp 49) (decide (v62 < (p3.length : Int))) (fun hc74 => ?_) (fun hc74 => ?_)
 · replace hF := of_pos hF hc74
   refine TS.sk (NX.sq (TS.sq (TS.bk 3 (TS.sq ?_))))
   have hX := of_guard hF
   clear hF
   obtain ⟨hg75, hF⟩ := hX
   have hX := of_do hF
   clear hF
   obtain ⟨o76, h77, hF⟩ := hX
   replace h77 := Option.some.inj h77
   refine TS.rg (TI.o { val := .pointer (some ⟨2, 0 + (Int.toNat v62) * 2, none⟩) } (q_ixS 2 0 ((Int.toNat v62) * 2) (by kernel_rfl) hg75) [2, 3, 4, 7, 46, 47, 48, 50] [0, 1, 2, 3, 4] (st 82 [(2, sv 2 p3.length ANY), (3, pt 3 0), (4, pt 4 0), (7, .func (.func 85) ⟨[]⟩ ⟨[pt 4 0]⟩), (46, sv 2 p3.length ANY), (47, iv (p3.length : Int)), (48, iv v62), (50, .pointer (some ⟨2, 0 + (Int.toNat v62) * 2, none⟩))]) (H78_10 p1 p2 p3 p0) (TI.o { val := ag [iv o76.1, .bool o76.2] } (q_nAa Try.prog (H78_10 p1 p2 p3 p0) 50 2 (0 + (Int.toNat v62) * 2) p3 e50 2 50 (Int.toNat v62) (0, false) h77) [2, 3, 4, 7, 46, 47, 48, 51] [0, 1, 2, 3, 4] (st 82 [(2, sv 2 p3.length ANY), (3, pt 3 0), (4, pt 4 0), (7, .func (.func 85) ⟨[]⟩ ⟨[pt 4 0]⟩), (46, sv 2 p3.length ANY), (47, iv (p3.length : Int)), (48, iv v62), (51, ag [iv o76.1, .bool o76.2])]) (H78_10 p1 p2 p3 p0) (TI.rn 2 [2, 3, 4, 7, 11, 46, 47, 48] [0, 1, 2, 3, 4, 5] (st 82 [(2, sv 2 p3.length ANY), (3, pt 3 0), (4, pt 4 0), (7, .func (.func 85) ⟨[]⟩ ⟨[pt 4 0]⟩), (11, pt 5 0), (46, sv 2 p3.length ANY), (47, iv (p3.length : Int)), (48, iv v62)]) [ab 86 e86 p1, ab 4 e4 p2, ab 50 e50 p3, cl 24 [iv p0, sv 0 p1.length ANY], cl 26 [sv 1 p2.length ANY], cl 50 [iv o76.1, .bool o76.2]] (TI.dn (NX.sq (TS.sq ?_))))))
   have hX := of_do hF
   clear hF
   obtain ⟨r78, h79, hF⟩ := hX
   have hX := of_do hF
   clear hF
   obtain ⟨m82, hm83, hF⟩ := hX
   have hK : NX Try.prog 3 3 [.sq c78.s2.s2.s2.s1.s2.bd.bd.s2.s2.s1.bd.s2.s2, .bk 3, .sq c78.s2.s2.s2.s1.s2.bd.bd.s2.s2.s2] (Rd Try.prog 3 3 c78.s2.s2.s2.s1.s2.bd.bd (P78l1 p0 p1 p2 p3 r)) .normal (st 82 [(2, sv 2 p3.length ANY), (3, pt 3 0), (4, pt 4 0), (7, .func (.func 85) ⟨[]⟩ ⟨[pt 4 0]⟩), (46, sv 2 p3.length ANY), (47, iv (p3.length : Int)), (48, iv v62), (60, .bool m82)]) (H78_9 p1 p2 p3 p0) := by
    refine NX.sq ?_
    cases m82 with
    | true =>
     replace hF := of_pos hF rfl
     refine TS.cdT (.tmp 60) (TS.sq (TS.rg (TI.rn 1 [6] [0, 1, 2] (st 82 [(6, iv 0)]) [ab 86 e86 p1, ab 4 e4 p2, ab 50 e50 p3, .dead, .dead, .dead] (TI.dn (NX.sq (TS.rt (NX.bkR (NX.sqR ?_))))))))
     have hF := Option.some.inj hF
     subst hF
     exact Rd.out (e := .ret) (by intro h; cases h) (And.intro rfl (Wk.an [] (.ac (.ac (.ac (.nil _)))) [iv 0] (.fl .nil)))
    | false =>
     replace hF := of_neg hF rfl
     refine TS.cdF (.tmp 60) (TS.sk (NX.bk (NX.sq (TS.rg (TI.ra 2 [2, 3, 4, 7, 46, 47, 48] (S78_13 p3 v62) (TI.dn ?_))))))
     exact Rd.again (a2 := (S78_13 p3 v62)) (h2 := (H78_10 p1 p2 p3 p0)) (Wk.an [3, 4] (.ac (.ac (.ac (.lt (.fl (.sl .nil)) (.lt (.sl .nil) (.nil _)))))) [sv 2 p3.length ANY, pt 3 0, pt 4 0, .func (.func 85) ⟨[]⟩ ⟨[pt 4 0]⟩, sv 2 p3.length ANY, iv (p3.length : Int), iv (w64 (v62 + 1))] (.sl (.pp (.pp (.cons (Rn.func' .nil (.pp .nil)) (.sl (.fl (.fl .nil)))))))) (ih (w64 (v62 + 1)) _ hF)
   cases r78 with
   | true =>
    replace hm83 := of_pos hm83 rfl
    have hX := of_do hm83
    clear hm83
    obtain ⟨r80, h81, hm83⟩ := hX
    have hm83 := Option.some.inj hm83
    subst hm83
    exact TS.rg (TI.ra 2 [2, 3, 4, 7, 11, 46, 47, 48, 52, 53] (S78_5 p3 v62 o76) (TI.cp 85 [ag [iv o76.1, .bool o76.2], pt 4 0] (.bool true) [] (PureSim.ren (hc := (H78_22 p2)) (fun i => List.getD [(4, 0), (1, 0)] i (0, 0)) (C85 _ _ _ _ h79) (.cons (At.blk (b1 := cl 26 [sv 1 p2.length ANY]) (by kernel_rfl) (RnB.lit (.cons (Rn.any _ _ _ _ _ _ (Nat.le_of_ble_eq_true rfl) rfl rfl (by decide)) .nil))) (.ac (.nil _))) (.fl (.pp .nil)) (.flat (by kernel_rfl)) newflat_nil) (TI.rn 3 [2, 3, 4, 7, 46, 47, 48, 55, 56, 57] [0, 1, 2, 3, 4] (st 82 [(2, sv 2 p3.length ANY), (3, pt 3 0), (4, pt 4 0), (7, .func (.func 85) ⟨[]⟩ ⟨[pt 4 0]⟩), (46, sv 2 p3.length ANY), (47, iv (p3.length : Int)), (48, iv v62), (55, .bool true), (56, ag [iv o76.1, .bool o76.2]), (57, sv 1 p2.length ANY)]) (H78_9 p1 p2 p3 p0) (TI.cp 62 [ag [iv o76.1, .bool o76.2], sv 1 p2.length ANY] (.bool r80) [] (PureSim.ren (hc := [ab 4 e4 p2]) (fun i => List.getD [(1, 0)] i (0, 0)) (C62 _ _ _ _ h81) (.ac (.nil _)) (.fl (.cons (Rn.any _ _ _ _ _ _ (Nat.le_of_ble_eq_true rfl) rfl rfl (by decide)) .nil)) (.flat (by kernel_rfl)) newflat_nil) (TI.ra 2 [2, 3, 4, 7, 46, 47, 48, 60] (st 82 [(2, sv 2 p3.length ANY), (3, pt 3 0), (4, pt 4 0), (7, .func (.func 85) ⟨[]⟩ ⟨[pt 4 0]⟩), (46, sv 2 p3.length ANY), (47, iv (p3.length : Int)), (48, iv v62), (60, .bool (!r80))]) (TI.dn hK))))))
   | false =>
    replace hm83 := of_neg hm83 rfl
    have hm83 := Option.some.inj hm83
    subst hm83
    exact TS.rg (TI.ra 2 [2, 3, 4, 7, 11, 46, 47, 48, 52, 53] (S78_5 p3 v62 o76) (TI.cp 85 [ag [iv o76.1, .bool o76.2], pt 4 0] (.bool false) [] (PureSim.ren (hc := (H78_22 p2)) (fun i => List.getD [(4, 0), (1, 0)] i (0, 0)) (C85 _ _ _ _ h79) (.cons (At.blk (b1 := cl 26 [sv 1 p2.length ANY]) (by kernel_rfl) (RnB.lit (.cons (Rn.any _ _ _ _ _ _ (Nat.le_of_ble_eq_true rfl) rfl rfl (by decide)) .nil))) (.ac (.nil _))) (.fl (.pp .nil)) (.flat (by kernel_rfl)) newflat_nil) (TI.rn 6 [2, 3, 4, 7, 46, 47, 48, 60] [0, 1, 2, 3, 4] (st 82 [(2, sv 2 p3.length ANY), (3, pt 3 0), (4, pt 4 0), (7, .func (.func 85) ⟨[]⟩ ⟨[pt 4 0]⟩), (46, sv 2 p3.length ANY), (47, iv (p3.length : Int)), (48, iv v62), (60, .bool false)]) (H78_9 p1 p2 p3 p0) (TI.dn hK))))
 replace hF := of_neg hF hc74
 refine TS.ex 2 (NX.sqX ?_)
 have hF := Option.some.inj hF
 subst hF
 exact Rd.out (e := .exit 2) (by intro h; cases h) (And.intro rfl (Wk.an [3, 4] (.ac (.ac (.ac (.lt (.fl (.sl .nil)) (.lt (.sl .nil) (.nil _)))))) [sv 2 p3.length ANY, pt 3 0, pt 4 0] (.sl (.pp (.pp .nil)))))
theorem B78 (rec78 : Int → (List ((Int × Bool) × (Int × Bool))) → (List Bool) → (List (Int × Bool)) → Option Int) (hrec78 : ∀ (p0 : Int) (p1 : (List ((Int × Bool) × (Int × Bool)))) (p2 : (List Bool)) (p3 : (List (Int × Bool))) (r : Int), rec78 p0 p1 p2 p3 = some r → PureSim Try.prog 78 [ag [iv p0, sv 0 p1.length ANY], sv 1 p2.length ANY, sv 2 p3.length ANY] (H78_20 p1 p2 p3) (V78 3 r) (N78 3 r)) (p0 : Int) (p1 : (List ((Int × Bool) × (Int × Bool)))) (p2 : (List Bool)) (p3 : (List (Int × Bool))) (r : Int) (hF : F78b rec78 p0 p1 p2 p3 = some r) : TS Try.prog 3 3 c78 (st 82 [(0, ag [iv p0, sv 0 p1.length ANY]), (1, sv 1 p2.length ANY), (2, sv 2 p3.length ANY)]) (H78_20 p1 p2 p3) (NX Try.prog 3 3 [] (FinP Try.prog Try.f78 3 (V78 3 r) (N78 3 r))) := by
 unfold F78b at hF
 refine TS.sq (TS.rg (TI.rn 3 [2, 3, 4] [0, 1, 2, 3, 4] (S78_23 p3) (H78_10 p1 p2 p3 p0) (TI.dn (NX.sq (TS.sq (TS.rg (TI.ra 2 [2, 3, 4, 7] (S78_21 p3) (TI.dn ?_))))))))
 refine NX.sq (TS.sq (TS.sq (TS.rg (TI.ra 4 [2, 3, 4, 7, 15, 16, 17] (S78_17 p3 p1) (TI.dn (NX.sq (TS.bk 0 ?_)))))))
 have hX := of_do hF
 clear hF
 obtain ⟨r48, h49, hF⟩ := hX
 refine TS.lp (TL.weak (a2 := (S78_17 p3 p1)) (h2 := (H78_10 p1 p2 p3 p0)) (Wk.an [3, 4] (.ac (.ac (.ac (.lt (.fl (.sl .nil)) (.lt (.sl .nil) (.nil _)))))) [sv 2 p3.length ANY, pt 3 0, pt 4 0, .func (.func 85) ⟨[]⟩ ⟨[pt 4 0]⟩, sv 0 p1.length ANY, iv (p1.length : Int), iv 0] (.sl (.pp (.pp (.cons (Rn.func' .nil (.pp .nil)) (.sl (.fl (.fl .nil)))))))) (TL.post (L78l0 p0 p1 p2 p3 0 r48 h49) ?_))
 rintro e a1 h1 hp
 rcases r48 with o50 | o51
 · skip
   obtain ⟨rfl, hw⟩ := hp
   refine ⟨(st 82 [(6, iv 0)]), (H78_20 p1 p2 p3), (NX.bkR (NX.sqR ?_)), hw⟩
   have hF := Option.some.inj hF
   subst hF
   exact ⟨.inr rfl, rfl, iv 0, by kernel_rfl, WkV.flat0 (by kernel_rfl) (Nat.le_of_ble_eq_true rfl)⟩
 skip
 obtain ⟨rfl, hw⟩ := hp
 refine ⟨(S78_21 p3), (H78_10 p1 p2 p3 p0), (NX.bkX (NX.sq (TS.sq (TS.sq (TS.rg (TI.ra 3 [2, 3, 4, 7, 46, 47, 48] (S78_18 p3) (TI.dn (NX.sq ?_)))))))), hw⟩
 refine TS.bk 2 ?_
 have hX := of_do hF
 clear hF
 obtain ⟨r84, h85, hF⟩ := hX
 refine TS.lp (TL.weak (a2 := (S78_18 p3)) (h2 := (H78_10 p1 p2 p3 p0)) (Wk.an [3, 4] (.ac (.ac (.ac (.lt (.fl (.sl .nil)) (.lt (.sl .nil) (.nil _)))))) [sv 2 p3.length ANY, pt 3 0, pt 4 0, .func (.func 85) ⟨[]⟩ ⟨[pt 4 0]⟩, sv 2 p3.length ANY, iv (p3.length : Int), iv 0] (.sl (.pp (.pp (.cons (Rn.func' .nil (.pp .nil)) (.sl (.fl (.fl .nil)))))))) (TL.post (L78l1 p0 p1 p2 p3 0 r84 h85) ?_))
 rintro e a1 h1 hp
 rcases r84 with o86 | o87
 · skip
   obtain ⟨rfl, hw⟩ := hp
   refine ⟨(st 82 [(6, iv 0)]), (H78_20 p1 p2 p3), (NX.bkR (NX.sqR ?_)), hw⟩
   have hF := Option.some.inj hF
   subst hF
   exact ⟨.inr rfl, rfl, iv 0, by kernel_rfl, WkV.flat0 (by kernel_rfl) (Nat.le_of_ble_eq_true rfl)⟩
 skip
 obtain ⟨rfl, hw⟩ := hp
 refine ⟨(S78_23 p3), (H78_10 p1 p2 p3 p0), (NX.bkX (NX.sq (TS.sq (TS.sq (TS.rg (TI.ra 5 [2, 3, 4, 66] (st 82 [(2, sv 2 p3.length ANY), (3, pt 3 0), (4, pt 4 0), (66, .bool ((p2.length : Int) == p0))]) (TI.dn (NX.sq ?_)))))))), hw⟩
 refine TS.cd (.tmp 66) ((p2.length : Int) == p0) (fun hc88 => ?_) (fun hc88 => ?_)
 · replace hF := of_pos hF hc88
   refine TS.sq (TS.rg (TI.rn 1 [6] [0, 1, 2] (st 82 [(6, iv 1)]) [ab 86 e86 p1, ab 4 e4 p2, ab 50 e50 p3, .dead, .dead] (TI.dn (NX.sq (TS.rt (NX.sqR ?_))))))
   have hF := Option.some.inj hF
   subst hF
   exact ⟨.inr rfl, rfl, iv 1, by kernel_rfl, WkV.flat0 (by kernel_rfl) (Nat.le_of_ble_eq_true rfl)⟩
 replace hF := of_neg hF hc88
 refine TS.sk (NX.sq (TS.sq ?_))
 have hX := of_guard hF
 clear hF
 obtain ⟨hg89, hF⟩ := hX
 refine TS.rg (TI.rn 1 [2, 3, 67] [0, 1, 2, 3] (st 82 [(2, sv 2 p3.length ANY), (3, pt 3 0), (67, sv 1 p2.length ANY)]) (H78_19 p1 p2 p3 p0) ?_)
 refine TI.cp 86 [sv 1 p2.length ANY] (fl 1 0 p2) [] (PureSim.ren (hc := [ab 4 e4 p2]) (fun i => List.getD [(1, 0)] i (0, 0)) (C86 p2 hg89) (.cons (At.win (s := 1) (b := 1) (off := 0) (L := p2) (ys := p2) (by rfl) win_all (holds_acc (hp := (H78_19 p1 p2 p3 p0)) (b := 1) (T := 4) (enc := e4) (L := p2) (by kernel_rfl)) (fun _ => rfl) (fun _ => rfl)) (.nil _)) (.cons (Rn.any _ _ _ _ _ _ (Nat.le_of_ble_eq_true rfl) rfl rfl (by decide)) .nil) (Rn.flr (Nat.le_of_ble_eq_true rfl) rfl hg89) newflat_nil) (TI.ra 1 [2, 3, 12] (st 82 [(2, sv 2 p3.length ANY), (3, pt 3 0), (12, fl 1 0 p2)]) (TI.dn (NX.sq (TS.sq ?_))))
 have hX := of_do hF
 clear hF
 obtain ⟨r90, h91, hF⟩ := hX
 have hX := of_do hF
 clear hF
 obtain ⟨r92, h93, hF⟩ := hX
 have hT : ∀ e ∈ ([⟨78, [ag [iv p0, sv 0 p1.length ANY], sv 6 (List.length (p2 ++ [false])) UNK, sv 2 p3.length ANY], (H78_8 p1 p2 p3 p0), iv r90, []⟩, ⟨78, [ag [iv p0, sv 0 p1.length ANY], sv 8 (List.length (p2 ++ [true])) UNK, sv 2 p3.length ANY], (H78_1 p1 p2 p3 p0), iv r92, []⟩] : List Entry), PureSim Try.prog e.g e.args e.h e.v e.new := by
  intro e he
  simp only [List.mem_cons, List.not_mem_nil, or_false] at he
  rcases he with rfl | rfl
  · exact (PureSim.ren (hc := [ab 86 e86 p1, accB 4 (List.length (p2 ++ [false])) (List.flatMap e4 (p2 ++ [false])), ab 50 e50 p3]) (fun i => List.getD [(0, 0), (6, 0), (2, 0)] i (0, 0)) (hrec78 _ _ _ _ _ h91) (.ac (.cons (At.accU (by kernel_rfl) rfl (fun _ => rfl)) (.ac (.nil _)))) (.cons (Rn.agg' (.fl (.cons (Rn.any _ _ _ _ _ _ (Nat.le_of_ble_eq_true rfl) rfl rfl (by decide)) .nil))) (.cons (Rn.any _ _ _ _ _ _ (Nat.le_of_ble_eq_true rfl) rfl rfl (by decide)) (.cons (Rn.any _ _ _ _ _ _ (Nat.le_of_ble_eq_true rfl) rfl rfl (by decide)) .nil))) (.flat (by kernel_rfl)) newflat_nil)
  exact (PureSim.ren (hc := [ab 86 e86 p1, accB 4 (List.length (p2 ++ [true])) (List.flatMap e4 (p2 ++ [true])), ab 50 e50 p3]) (fun i => List.getD [(0, 0), (8, 0), (2, 0)] i (0, 0)) (hrec78 _ _ _ _ _ h93) (.ac (.cons (At.accU (by kernel_rfl) rfl (fun _ => rfl)) (.ac (.nil _)))) (.cons (Rn.agg' (.fl (.cons (Rn.any _ _ _ _ _ _ (Nat.le_of_ble_eq_true rfl) rfl rfl (by decide)) .nil))) (.cons (Rn.any _ _ _ _ _ _ (Nat.le_of_ble_eq_true rfl) rfl rfl (by decide)) (.cons (Rn.any _ _ _ _ _ _ (Nat.le_of_ble_eq_true rfl) rfl rfl (by decide)) .nil))) (.flat (by kernel_rfl)) newflat_nil)
 refine TS.dp [⟨78, [ag [iv p0, sv 0 p1.length ANY], sv 6 (List.length (p2 ++ [false])) UNK, sv 2 p3.length ANY], (H78_8 p1 p2 p3 p0), iv r90, []⟩, ⟨78, [ag [iv p0, sv 0 p1.length ANY], sv 8 (List.length (p2 ++ [true])) UNK, sv 2 p3.length ANY], (H78_1 p1 p2 p3 p0), iv r92, []⟩] hT mixed 11 [6] [0, 1, 2] (st 82 [(6, iv (w64 (r90 + r92)))]) [ab 86 e86 p1, ab 4 e4 p2, ab 50 e50 p3, .dead, .dead, .dead, .dead, .dead, .dead] ?_ ?_
 · refine QJ.rn (qs (st 82 [(2, sv 2 p3.length ANY), (3, pt 3 0), (12, fl 1 0 p2), (69, ag [iv p0, sv 0 p1.length ANY]), (70, fl 1 0 p2), (71, sv 5 1 1)]) (H78_14 p1 p2 p3 p0) [(2, 5, 6)] []) 3 (QJ.o { val := sv 6 (List.length (p2 ++ [false])) UNK, new := [.cells 4 (List.flatMap e4 (p2 ++ [false]))] } (q_appF (P := Try.prog) (base := 3) (hp := (H78_14 p1 p2 p3 p0)) (n := 6) (s := 1) (enc := e4) (ts := #[26, 26]) (e := 4) (bytes := 1) (z := .bool false) (w := sv 5 1 1) (ys2 := [false]) (t := 4) (b := 1) (L := p2) win_all (holds_acc (hp := (H78_14 p1 p2 p3 p0)) (b := 1) (T := 4) (enc := e4) (L := p2) (by kernel_rfl)) (by kernel_rfl) (litK_old (by decide)) (by kernel_rfl) (by kernel_rfl) (by kernel_rfl) (by kernel_rfl) (by kernel_rfl) (by kernel_rfl) (by kernel_rfl) hg89 (fun _ => rfl) (by simp only [List.length_cons, List.length_nil]; omega)) (QJ.rn (qs (st 82 [(2, sv 2 p3.length ANY), (3, pt 3 0), (12, fl 1 0 p2), (69, ag [iv p0, sv 0 p1.length ANY]), (70, fl 1 0 p2), (71, sv 5 1 1), (72, sv 6 (List.length (p2 ++ [false])) UNK), (73, sv 2 p3.length ANY)]) (H78_8 p1 p2 p3 p0) [(3, 6, 7), (2, 5, 6)] []) 1 (QJ.o { val := iv r90, new := [] } (qOf_call (g := 78) (args := [ag [iv p0, sv 0 p1.length ANY], sv 6 (List.length (p2 ++ [false])) UNK, sv 2 p3.length ANY]) (by kernel_rfl) lookC_hit) (QJ.rn (qs (st 82 [(2, sv 2 p3.length ANY), (3, pt 3 0), (12, fl 1 0 p2), (69, ag [iv p0, sv 0 p1.length ANY]), (70, fl 1 0 p2), (71, sv 5 1 1), (72, sv 6 (List.length (p2 ++ [false])) UNK), (73, sv 2 p3.length ANY), (74, iv r90), (75, ag [iv p0, sv 0 p1.length ANY]), (76, fl 1 0 p2), (77, sv 7 1 1)]) (H78_6 p1 p2 p3 p0) [(8, 7, 8), (3, 6, 7), (2, 5, 6)] []) 3 (QJ.o { val := sv 8 (List.length (p2 ++ [true])) UNK, new := [.cells 4 (List.flatMap e4 (p2 ++ [true]))] } (q_appF (P := Try.prog) (base := 3) (hp := (H78_6 p1 p2 p3 p0)) (n := 8) (s := 1) (enc := e4) (ts := #[26, 26]) (e := 4) (bytes := 1) (z := .bool false) (w := sv 7 1 1) (ys2 := [true]) (t := 4) (b := 1) (L := p2) win_all (holds_acc (hp := (H78_6 p1 p2 p3 p0)) (b := 1) (T := 4) (enc := e4) (L := p2) (by kernel_rfl)) (by kernel_rfl) (litK_old (by decide)) (by kernel_rfl) (by kernel_rfl) (by kernel_rfl) (by kernel_rfl) (by kernel_rfl) (by kernel_rfl) (by kernel_rfl) hg89 (fun _ => rfl) (by simp only [List.length_cons, List.length_nil]; omega)) (QJ.rn (qs (st 82 [(2, sv 2 p3.length ANY), (3, pt 3 0), (12, fl 1 0 p2), (69, ag [iv p0, sv 0 p1.length ANY]), (70, fl 1 0 p2), (71, sv 5 1 1), (72, sv 6 (List.length (p2 ++ [false])) UNK), (73, sv 2 p3.length ANY), (74, iv r90), (75, ag [iv p0, sv 0 p1.length ANY]), (76, fl 1 0 p2), (77, sv 7 1 1), (78, sv 8 (List.length (p2 ++ [true])) UNK), (79, sv 2 p3.length ANY)]) (H78_1 p1 p2 p3 p0) [(9, 8, 9), (8, 7, 8), (3, 6, 7), (2, 5, 6)] []) 1 (QJ.dn ⟨rfl, ?_⟩)))))))
   exact SJ.o { val := iv r92, new := [] } (qOf_call (g := 78) (args := [ag [iv p0, sv 0 p1.length ANY], sv 8 (List.length (p2 ++ [true])) UNK, sv 2 p3.length ANY]) (by kernel_rfl) (lookC_skip (by intro _ ha hh; first | (exact absurd (congrArg List.length hh) (Nat.ne_of_beq_eq_false rfl)) | (have hq := h91; have hi := h93; clear hF; first | (exfalso; simp at ha; done) | ((try simp at ha); have hr := Option.some.inj (hq.symm.trans (Eq.trans (by first | rfl | (congr 1 <;> first | rfl | omega | simp_all)) hi)); subst hr; rfl))) lookC_hit)) SJ.la
 refine TS.rt ?_
 have hF := Option.some.inj hF
 subst hF
 exact ⟨.inr rfl, rfl, iv (w64 (r90 + r92)), by kernel_rfl, WkV.flat0 (by kernel_rfl) (Nat.le_of_ble_eq_true rfl)⟩
theorem C78 (k : Nat) : ∀ (p0 : Int) (p1 : (List ((Int × Bool) × (Int × Bool)))) (p2 : (List Bool)) (p3 : (List (Int × Bool))) (r : Int), F78 k p0 p1 p2 p3 = some r → PureSim Try.prog 78 [ag [iv p0, sv 0 p1.length ANY], sv 1 p2.length ANY, sv 2 p3.length ANY] (H78_20 p1 p2 p3) (V78 3 r) (N78 3 r) := by
 induction k with
 | zero => intro p0 p1 p2 p3 r hF; cases (show (none : Option Int) = some r from hF)
 | succ k ih =>
  intro p0 p1 p2 p3 r hF
  exact PureSim.of_Fin Try.func78 (c := c78) (by kernel_rfl) (by kernel_rfl) 3 rfl [0, 1, 2] [0, 1, 2] (by kernel_rfl) (B78 (F78 k) ih p0 p1 p2 p3 r hF)
noncomputable def c38 : Code := Try.f38.code
def H38_0 (p1 : (List ((Int × Bool) × (Int × Bool)))) (p2 : (List (Int × Bool))) (p0 : Int) : List Blk := [ab 86 e86 p1, ab 50 e50 p2, cl 24 [iv p0, sv 0 p1.length ANY], .dead, .dead, .map 50 (List.map (mEnc u50 u50) ([] : (List ((Int × Bool) × (Int × Bool))))), cl 126 [iv p0, sv 0 p1.length ANY, .map (some 5)]]
def H38_1 (p1 : (List ((Int × Bool) × (Int × Bool)))) (p2 : (List (Int × Bool))) (p0 : Int) (r12 : ((Int × Bool) × Bool × (List ((Int × Bool) × (Int × Bool))))) : List Blk := [ab 86 e86 p1, ab 50 e50 p2, cl 24 [iv p0, sv 0 p1.length ANY], .dead, .dead, mb 50 u50 u50 r12.2.2, cl 126 [iv p0, sv 0 p1.length ANY, .map (some 5)], .dead]
def H38_2 (p1 : (List ((Int × Bool) × (Int × Bool)))) (p2 : (List (Int × Bool))) (p0 : Int) (m17 : (Bool × (List ((Int × Bool) × (Int × Bool))))) : List Blk := [ab 86 e86 p1, ab 50 e50 p2, cl 24 [iv p0, sv 0 p1.length ANY], .dead, .dead, mb 50 u50 u50 m17.2, cl 126 [iv p0, sv 0 p1.length ANY, .map (some 5)], .dead]
def S38_3 (p2 : (List (Int × Bool))) (p0 : Int) (p1 : (List ((Int × Bool) × (Int × Bool)))) : CAct := (st 29 [(1, sv 1 p2.length ANY), (2, pt 2 0), (9, ag [iv p0, sv 0 p1.length ANY]), (10, sv 1 p2.length ANY)])
def H38_4 (p1 : (List ((Int × Bool) × (Int × Bool)))) (p2 : (List (Int × Bool))) (p0 : Int) : List Blk := [ab 86 e86 p1, ab 50 e50 p2, cl 24 [iv p0, sv 0 p1.length ANY], .dead, .dead, .dead, .dead, .dead]
def H38_5 (p1 : (List ((Int × Bool) × (Int × Bool)))) (p2 : (List (Int × Bool))) : List Blk := [ab 86 e86 p1, accB 4 (List.length ([] : List Bool)) (List.flatMap e4 ([] : List Bool)), ab 50 e50 p2]
def H38_6 (p1 : (List ((Int × Bool) × (Int × Bool)))) (p2 : (List (Int × Bool))) (p0 : Int) : List Blk := [ab 86 e86 p1, ab 50 e50 p2, cl 24 [iv p0, sv 0 p1.length ANY], .dead]
def H38_7 (p1 : (List ((Int × Bool) × (Int × Bool)))) (p2 : (List (Int × Bool))) : List Blk := [ab 86 e86 p1, ab 50 e50 p2, .dead, .dead, .dead, .dead, .dead, .dead]
def S38_8 (p0 : Int) (p1 : (List ((Int × Bool) × (Int × Bool)))) (p2 : (List (Int × Bool))) : CAct := (st 29 [(26, ag [iv p0, sv 0 p1.length ANY]), (27, sv 1 p2.length ANY)])
def H38_9 (p1 : (List ((Int × Bool) × (Int × Bool)))) (p2 : (List (Int × Bool))) : List Blk := [ab 86 e86 p1, ab 50 e50 p2, .dead, .dead]
def S38_10 (p2 : (List (Int × Bool))) (p0 : Int) : CAct := (st 29 [(1, sv 1 p2.length ANY), (2, pt 2 0), (22, .bool (decide (p0 > 14)))])
def H38_11 (p1 : (List ((Int × Bool) × (Int × Bool)))) (p2 : (List (Int × Bool))) : List Blk := [ab 86 e86 p1, ab 50 e50 p2]
noncomputable def c38f55 : Code := Try.f55.code
noncomputable def c38f66 : Code := Try.f66.code
def F38 (p0 : Int) (p1 : (List ((Int × Bool) × (Int × Bool)))) (p2 : (List (Int × Bool))) : Option (Int × Int) :=
 F26 p0 p1 >>= fun r1 =>
 if r1 != 0 then
  if r1 != 13 then
   some (0, r1)
  else
   if decide (p0 > 14) then
    some (0, 16)
   else
    F78 64 p0 p1 ([] : List Bool) p2 >>= fun r6 =>
    some (r6, 0)
 else
  if decide ((p2.length : Int) > 24) then
   some (0, 3)
  else
   F64 p0 p1 p2 >>= fun r9 =>
   if !r9 then
    some (0, 6)
   else
    F75 1 p0 p1 ([] : (List ((Int × Bool) × (Int × Bool)))) >>= fun r12 =>
    (
     if r12.2.1 then
      some (true, r12.2.2)
     else
      F57 1 p0 p1 r12.2.2 p2 >>= fun r15 =>
      some (!r15.1, r15.2)
    : Option (Bool × (List ((Int × Bool) × (Int × Bool))))) >>= fun m17 =>
    if m17.1 then
     if decide (p0 > 14) then
      some (0, 16)
     else
      F78 64 p0 p1 ([] : List Bool) p2 >>= fun r20 =>
      some (r20, 0)
    else
     if decide (p0 > 14) then
      some (0, 16)
     else
      F78 64 p0 p1 ([] : List Bool) p2 >>= fun r23 =>
      some (r23, 0)
def V38 (b : Nat) (r : (Int × Int)) : Value := .tuple ⟨[iv r.1, iv r.2]⟩
def N38 (b : Nat) (r : (Int × Int)) : List Blk := []
theorem B38 (p0 : Int) (p1 : (List ((Int × Bool) × (Int × Bool)))) (p2 : (List (Int × Bool))) (r : (Int × Int)) (hF : F38 p0 p1 p2 = some r) : TS Try.prog 2 2 c38 (st 29 [(0, ag [iv p0, sv 0 p1.length ANY]), (1, sv 1 p2.length ANY)]) (H38_11 p1 p2) (NX Try.prog 2 2 [] (FinP Try.prog Try.f38 2 (V38 2 r) (N38 2 r))) := by
 unfold F38 at hF
 refine TS.sq (TS.rg (TI.rn 3 [1, 2] [0, 1, 2] (st 29 [(1, sv 1 p2.length ANY), (2, pt 2 0)]) [ab 86 e86 p1, ab 50 e50 p2, cl 24 [iv p0, sv 0 p1.length ANY]] (TI.dn (NX.sq (TS.sq (TS.rg (TI.ra 2 [1, 2, 9, 10] (S38_3 p2 p0 p1) (TI.inline (g := 55) (args := [ag [iv p0, sv 0 p1.length ANY], sv 1 p2.length ANY]) (fn := Try.f55) (c := c38f55) (n := 3) (by kernel_rfl) (by kernel_rfl) (by kernel_rfl) (by kernel_rfl) (by kernel_rfl) [0, 1] (a2 := (st 40 [(0, ag [iv p0, sv 0 p1.length ANY]), (1, sv 1 p2.length ANY)])) (by kernel_rfl) ?_))))))))
 refine TS.sq (TS.rg (TI.rn 3 [1, 2] [0, 1, 2, 3] (st 40 [(1, sv 1 p2.length ANY), (2, pt 3 0)]) [ab 86 e86 p1, ab 50 e50 p2, cl 24 [iv p0, sv 0 p1.length ANY], cl 24 [iv p0, sv 0 p1.length ANY]] (TI.dn (NX.sq (TS.sq ?_)))))
 have hX := of_do hF
 clear hF
 obtain ⟨r1, h2, hF⟩ := hX
 refine TS.rg (TI.ra 1 [1, 2, 10] (st 40 [(1, sv 1 p2.length ANY), (2, pt 3 0), (10, ag [iv p0, sv 0 p1.length ANY])]) (TI.cp 26 [ag [iv p0, sv 0 p1.length ANY]] (iv r1) [] (PureSim.ren (hc := [ab 86 e86 p1]) (fun i => List.getD [(0, 0)] i (0, 0)) (C26 _ _ _ h2) (.ac (.nil _)) (.cons (Rn.agg' (.fl (.cons (Rn.any _ _ _ _ _ _ (Nat.le_of_ble_eq_true rfl) rfl rfl (by decide)) .nil))) .nil) (.flat (by kernel_rfl)) newflat_nil) (TI.ra 1 [1, 2, 6] (st 40 [(1, sv 1 p2.length ANY), (2, pt 3 0), (6, iv r1)]) (TI.dn (NX.sq (TS.sq (TS.bk 0 (TS.sq ?_))))))))
 refine TS.rg (TI.ra 3 [1, 2, 6, 12] (st 40 [(1, sv 1 p2.length ANY), (2, pt 3 0), (6, iv r1), (12, .bool (r1 != 0))]) (TI.dn (NX.sq ?_)))
 refine TS.cd (.tmp 12) (r1 != 0) (fun hc3 => ?_) (fun hc3 => ?_)
 · replace hF := of_pos hF hc3
   refine TS.sq (TS.rg (TI.rn 3 [4, 5] [0, 1, 2] (st 40 [(4, .pointer none), (5, iv r1)]) (H38_6 p1 p2 p0) (TI.dn (NX.sq (TS.rt (NX.bkR (NX.sqR ?_)))))))
   refine ⟨.inr rfl, rfl, .tuple ⟨[.pointer none, iv r1]⟩, .tuple ⟨[.pointer none, iv r1]⟩, (H38_6 p1 p2 p0), by kernel_rfl, WkV.refl, (TI.rn 0 [1, 2, 11] [0, 1, 2] (st 29 [(1, sv 1 p2.length ANY), (2, pt 2 0), (11, .tuple ⟨[.pointer none, iv r1]⟩)]) (H38_6 p1 p2 p0) (TI.ra 5 [1, 2, 7] (st 29 [(1, sv 1 p2.length ANY), (2, pt 2 0), (7, iv r1)]) (TI.dn (NX.sq (TS.sq (TS.bk 0 (TS.sq (TS.rg ?_))))))))⟩
   refine TI.ra 1 [1, 2, 7, 15] (st 29 [(1, sv 1 p2.length ANY), (2, pt 2 0), (7, iv r1), (15, iv r1)]) (TI.o { val := .bool true } (q_conv (e := r1 != 0) (b := true) (by kernel_rfl) hc3) [1, 2, 7, 16] [0, 1, 2] (st 29 [(1, sv 1 p2.length ANY), (2, pt 2 0), (7, iv r1), (16, .bool true)]) (H38_6 p1 p2 p0) (TI.ra 5 [1, 2, 7, 14] (st 29 [(1, sv 1 p2.length ANY), (2, pt 2 0), (7, iv r1), (14, .bool (r1 != 13))]) (TI.dn (NX.sq ?_))))
   refine TS.cd (.tmp 14) (r1 != 13) (fun hc4 => ?_) (fun hc4 => ?_)
   · replace hF := of_pos hF hc4
     refine TS.sq (TS.rg (TI.rn 3 [4, 5] [0, 1] (st 29 [(4, iv 0), (5, iv r1)]) (H38_9 p1 p2) (TI.dn (NX.sq (TS.rt (NX.bkR (NX.sqR ?_)))))))
     have hF := Option.some.inj hF
     subst hF
     exact ⟨.inr rfl, rfl, .tuple ⟨[iv 0, iv r1]⟩, by kernel_rfl, WkV.flat0 (by kernel_rfl) (Nat.le_of_ble_eq_true rfl)⟩
   replace hF := of_neg hF hc4
   refine TS.sq (TS.rg (TI.ra 4 [1, 2, 22] (S38_10 p2 p0) (TI.dn (NX.sq ?_))))
   refine TS.cd (.tmp 22) (decide (p0 > 14)) (fun hc5 => ?_) (fun hc5 => ?_)
   · replace hF := of_pos hF hc5
     refine TS.sq (TS.rg (TI.rn 2 [4, 5] [0, 1] (st 29 [(4, iv 0), (5, iv 16)]) (H38_9 p1 p2) (TI.dn (NX.sq (TS.rt (NX.bkR (NX.sqR ?_)))))))
     have hF := Option.some.inj hF
     subst hF
     exact ⟨.inr rfl, rfl, .tuple ⟨[iv 0, iv 16]⟩, by kernel_rfl, WkV.flat0 (by kernel_rfl) (Nat.le_of_ble_eq_true rfl)⟩
   replace hF := of_neg hF hc5
   refine TS.sk (NX.bk (NX.sq (TS.sq ?_)))
   have hX := of_do hF
   clear hF
   obtain ⟨r6, h7, hF⟩ := hX
   refine TS.rg (TI.rn 2 [26, 27] [0, 1] (S38_8 p0 p1 p2) (H38_9 p1 p2) (TI.cp 78 [ag [iv p0, sv 0 p1.length ANY], .slice none 0 0, sv 1 p2.length ANY] (iv r6) [] (PureSim.ren (hc := (H38_5 p1 p2)) (fun i => List.getD [(0, 0), (0, 0), (1, 0)] i (0, 0)) (C78 64 _ _ _ _ _ h7) (.ac (.cons At.accN (.ac (.nil _)))) (.cons (Rn.agg' (.fl (.cons (Rn.any _ _ _ _ _ _ (Nat.le_of_ble_eq_true rfl) rfl rfl (by decide)) .nil))) (.cons (Rn.anyN _ _ _ rfl (by decide)) (.cons (Rn.any _ _ _ _ _ _ (Nat.le_of_ble_eq_true rfl) rfl rfl (by decide)) .nil))) (.flat (by kernel_rfl)) newflat_nil) (TI.ra 2 [4, 5] (st 29 [(4, iv r6), (5, iv 0)]) (TI.dn (NX.sq (TS.rt ?_))))))
   have hF := Option.some.inj hF
   subst hF
   exact ⟨.inr rfl, rfl, .tuple ⟨[iv r6, iv 0]⟩, by kernel_rfl, WkV.flat0 (by kernel_rfl) (Nat.le_of_ble_eq_true rfl)⟩
 replace hF := of_neg hF hc3
 refine TS.sq (TS.rg (TI.ra 4 [1, 2, 16] (st 40 [(1, sv 1 p2.length ANY), (2, pt 3 0), (16, .bool (decide ((p2.length : Int) > 24)))]) (TI.dn (NX.sq ?_))))
 refine TS.cd (.tmp 16) (decide ((p2.length : Int) > 24)) (fun hc8 => ?_) (fun hc8 => ?_)
 · replace hF := of_pos hF hc8
   refine TS.sq (TS.rg (TI.rn 2 [4, 5] [0, 1, 2] (st 40 [(4, .pointer none), (5, iv 3)]) (H38_6 p1 p2 p0) (TI.dn (NX.sq (TS.rt (NX.bkR (NX.sqR ?_)))))))
   refine ⟨.inr rfl, rfl, .tuple ⟨[.pointer none, iv 3]⟩, .tuple ⟨[.pointer none, iv 3]⟩, (H38_6 p1 p2 p0), by kernel_rfl, WkV.refl, (TI.rn 0 [1, 2, 11] [0, 1, 2] (st 29 [(1, sv 1 p2.length ANY), (2, pt 2 0), (11, .tuple ⟨[.pointer none, iv 3]⟩)]) (H38_6 p1 p2 p0) (TI.ra 5 [1, 2, 7] (st 29 [(1, sv 1 p2.length ANY), (2, pt 2 0), (7, iv 3)]) (TI.dn (NX.sq (TS.sq (TS.bk 0 (TS.sq (TS.rg ?_))))))))⟩
   refine TI.ra 7 [1, 2, 7, 14] (st 29 [(1, sv 1 p2.length ANY), (2, pt 2 0), (7, iv 3), (14, .bool true)]) (TI.dn (NX.sq (TS.cdT (.tmp 14) (TS.sq (TS.rg (TI.rn 3 [4, 5] [0, 1] (st 29 [(4, iv 0), (5, iv 3)]) (H38_9 p1 p2) (TI.dn (NX.sq ?_))))))))
   refine TS.rt (NX.bkR (NX.sqR ?_))
   have hF := Option.some.inj hF
   subst hF
   exact ⟨.inr rfl, rfl, .tuple ⟨[iv 0, iv 3]⟩, by kernel_rfl, WkV.flat0 (by kernel_rfl) (Nat.le_of_ble_eq_true rfl)⟩
 replace hF := of_neg hF hc8
 refine TS.sq ?_
 have hX := of_do hF
 clear hF
 obtain ⟨r9, h10, hF⟩ := hX
 refine TS.rg (TI.ra 2 [1, 2, 21, 22] (st 40 [(1, sv 1 p2.length ANY), (2, pt 3 0), (21, ag [iv p0, sv 0 p1.length ANY]), (22, sv 1 p2.length ANY)]) (TI.cp 64 [ag [iv p0, sv 0 p1.length ANY], sv 1 p2.length ANY] (.bool r9) [] (PureSim.ren (hc := (H38_11 p1 p2)) (fun i => List.getD [(0, 0), (1, 0)] i (0, 0)) (C64 _ _ _ _ h10) (.ac (.ac (.nil _))) (.cons (Rn.agg' (.fl (.cons (Rn.any _ _ _ _ _ _ (Nat.le_of_ble_eq_true rfl) rfl rfl (by decide)) .nil))) (.cons (Rn.any _ _ _ _ _ _ (Nat.le_of_ble_eq_true rfl) rfl rfl (by decide)) .nil)) (.flat (by kernel_rfl)) newflat_nil) (TI.ra 2 [1, 2, 20] (st 40 [(1, sv 1 p2.length ANY), (2, pt 3 0), (20, .bool (!r9))]) (TI.dn (NX.sq ?_)))))
 refine TS.cd (.tmp 20) (!r9) (fun hc11 => ?_) (fun hc11 => ?_)
 · replace hF := of_pos hF hc11
   refine TS.sq (TS.rg (TI.rn 2 [4, 5] [0, 1, 2] (st 40 [(4, .pointer none), (5, iv 6)]) (H38_6 p1 p2 p0) (TI.dn (NX.sq (TS.rt (NX.bkR (NX.sqR ?_)))))))
   refine ⟨.inr rfl, rfl, .tuple ⟨[.pointer none, iv 6]⟩, .tuple ⟨[.pointer none, iv 6]⟩, (H38_6 p1 p2 p0), by kernel_rfl, WkV.refl, (TI.rn 0 [1, 2, 11] [0, 1, 2] (st 29 [(1, sv 1 p2.length ANY), (2, pt 2 0), (11, .tuple ⟨[.pointer none, iv 6]⟩)]) (H38_6 p1 p2 p0) (TI.ra 5 [1, 2, 7] (st 29 [(1, sv 1 p2.length ANY), (2, pt 2 0), (7, iv 6)]) (TI.dn (NX.sq (TS.sq (TS.bk 0 (TS.sq (TS.rg ?_))))))))⟩
   refine TI.ra 7 [1, 2, 7, 14] (st 29 [(1, sv 1 p2.length ANY), (2, pt 2 0), (7, iv 6), (14, .bool true)]) (TI.dn (NX.sq (TS.cdT (.tmp 14) (TS.sq (TS.rg (TI.rn 3 [4, 5] [0, 1] (st 29 [(4, iv 0), (5, iv 6)]) (H38_9 p1 p2) (TI.dn (NX.sq ?_))))))))
   refine TS.rt (NX.bkR (NX.sqR ?_))
   have hF := Option.some.inj hF
   subst hF
   exact ⟨.inr rfl, rfl, .tuple ⟨[iv 0, iv 6]⟩, by kernel_rfl, WkV.flat0 (by kernel_rfl) (Nat.le_of_ble_eq_true rfl)⟩
 replace hF := of_neg hF hc11
 refine TS.sk (NX.bk (NX.sq (TS.sq (TS.rg (TI.rn 1 [1, 25] [0, 1, 2] (st 40 [(1, sv 1 p2.length ANY), (25, ag [iv p0, sv 0 p1.length ANY])]) (H38_6 p1 p2 p0) (TI.inline (g := 66) (args := [ag [iv p0, sv 0 p1.length ANY]]) (fn := Try.f66) (c := c38f66) (n := 4) (by kernel_rfl) (by kernel_rfl) (by kernel_rfl) (by kernel_rfl) (by kernel_rfl) [0] (a2 := (st 7 [(0, ag [iv p0, sv 0 p1.length ANY])])) (by kernel_rfl) (TS.sq (TS.rg ?_))))))))
 refine TI.rn 2 [1] [0, 1, 2, 4] (st 7 [(1, pt 4 0)]) [ab 86 e86 p1, ab 50 e50 p2, cl 24 [iv p0, sv 0 p1.length ANY], .dead, cl 24 [iv p0, sv 0 p1.length ANY]] (TI.dn (NX.sq (TS.sq (TS.rg (TI.rn 5 [2] [0, 1, 2, 5, 6] (st 7 [(2, pt 6 0)]) (H38_0 p1 p2 p0) (TI.dn (NX.sq (TS.rt ?_))))))))
 refine ⟨.inr rfl, rfl, pt 6 0, pt 6 0, (H38_0 p1 p2 p0), by kernel_rfl, WkV.refl, (TI.rn 0 [1, 26] [0, 1, 2, 5, 6] (st 40 [(1, sv 1 p2.length ANY), (26, pt 6 0)]) (H38_0 p1 p2 p0) (TI.ra 1 [1, 7] (st 40 [(1, sv 1 p2.length ANY), (7, pt 6 0)]) (TI.dn (NX.sq (TS.sq (TS.sq ?_))))))⟩
 have hX := of_do hF
 clear hF
 obtain ⟨r12, h13, hF⟩ := hX
 refine TS.rg (TI.ra 1 [1, 7, 28] (st 40 [(1, sv 1 p2.length ANY), (7, pt 6 0), (28, pt 6 0)]) (TI.icallM (g := 75) (args := [pt 6 0]) (v := .tuple ⟨[ag [iv r12.1.1, .bool r12.1.2], .bool r12.2.1]⟩) (by kernel_rfl) (ImpSim.frameB (n := 3) (h := (H38_0 p1 p2 p0)) (ro := [cl 126 [iv p0, sv 1 p1.length ANY, .map (some 2)], ab 86 e86 p1]) (wr := [.map 50 (List.map (mEnc u50 u50) ([] : (List ((Int × Bool) × (Int × Bool)))))]) (wr' := [mb 50 u50 u50 r12.2.2]) (fun i => List.getD [(6, 0), (0, 0), (5, 0)] i (0, 0)) (C75 1 _ _ _ _ h13) rfl rfl (.cons (At.blk (b1 := cl 126 [iv p0, sv 0 p1.length ANY, .map (some 5)]) (by kernel_rfl) (RnB.lit (.fl (.cons (Rn.any _ _ _ _ _ _ (Nat.le_of_ble_eq_true rfl) rfl rfl (by decide)) (.cons (Rn.map _ (Nat.le_of_ble_eq_true rfl)) .nil))))) (.ac (.cons (At.blk (by kernel_rfl) (RnB.map _ _)) (.nil _)))) (by kernel_rfl) (by kernel_rfl) (by kernel_rfl) (.pp .nil) (by kernel_rfl)) [1, 7, 29] [0, 1, 2, 5, 6] (a2 := (st 40 [(1, sv 1 p2.length ANY), (7, pt 6 0), (29, .tuple ⟨[ag [iv r12.1.1, .bool r12.1.2], .bool r12.2.1]⟩)])) (h2 := [ab 86 e86 p1, ab 50 e50 p2, cl 24 [iv p0, sv 0 p1.length ANY], .dead, .dead, mb 50 u50 u50 r12.2.2, cl 126 [iv p0, sv 0 p1.length ANY, .map (some 5)]]) (by kernel_rfl) (TI.rn 6 [1, 7, 9] [0, 1, 2, 5, 6] (st 40 [(1, sv 1 p2.length ANY), (7, pt 6 0), (9, .bool r12.2.1)]) (H38_1 p1 p2 p0 r12) (TI.dn (NX.sq (TS.sq ?_))))))
 have hX := of_do hF
 clear hF
 obtain ⟨m17, hm25, hF⟩ := hX
 have hK : NX Try.prog 2 3 [.sq c38f55.s2.s2.s2.s2.s1.s2.s2, .sq c38f55.s2.s2.s2.s2.s2] (InlP Try.prog 2 3 Try.f55 (fun v2 h2 => TI Try.prog 2 2 c38.s2.s1.rops 3 (putAt c38.s2.s1.rops 2 (S38_3 p2 p0 p1) v2) h2 (NX Try.prog 2 2 [.sq c38.s2.s2] (FinP Try.prog Try.f38 2 (V38 2 r) (N38 2 r)) .normal))) .normal (st 40 [(7, pt 6 0), (38, .bool m17.1)]) (H38_2 p1 p2 p0 m17) := by
  refine NX.sq ?_
  refine TS.cd (.tmp 38) m17.1 (fun hc18 => ?_) (fun hc18 => ?_)
  · replace hF := of_pos hF hc18
    refine TS.sq (TS.rg (TI.rn 2 [4, 5] [0, 1, 2] (st 40 [(4, .pointer none), (5, iv 13)]) (H38_4 p1 p2 p0) (TI.dn (NX.sq (TS.rt (NX.sqR ?_))))))
    refine ⟨.inr rfl, rfl, .tuple ⟨[.pointer none, iv 13]⟩, .tuple ⟨[.pointer none, iv 13]⟩, (H38_4 p1 p2 p0), by kernel_rfl, WkV.refl, (TI.rn 0 [1, 2, 11] [0, 1, 2] (st 29 [(1, sv 1 p2.length ANY), (2, pt 2 0), (11, .tuple ⟨[.pointer none, iv 13]⟩)]) (H38_4 p1 p2 p0) (TI.ra 5 [1, 2, 7] (st 29 [(1, sv 1 p2.length ANY), (2, pt 2 0), (7, iv 13)]) (TI.dn (NX.sq (TS.sq (TS.bk 0 (TS.sq (TS.rg ?_))))))))⟩
    refine TI.ra 7 [1, 2, 7, 14] (st 29 [(1, sv 1 p2.length ANY), (2, pt 2 0), (7, iv 13), (14, .bool false)]) (TI.dn (NX.sq (TS.cdF (.tmp 14) (TS.sq (TS.rg (TI.ra 4 [1, 2, 22] (S38_10 p2 p0) (TI.dn (NX.sq ?_))))))))
    refine TS.cd (.tmp 22) (decide (p0 > 14)) (fun hc19 => ?_) (fun hc19 => ?_)
    · replace hF := of_pos hF hc19
      refine TS.sq (TS.rg (TI.rn 2 [4, 5] [0, 1] (st 29 [(4, iv 0), (5, iv 16)]) (H38_7 p1 p2) (TI.dn (NX.sq (TS.rt (NX.bkR (NX.sqR ?_)))))))
      have hF := Option.some.inj hF
      subst hF
      exact ⟨.inr rfl, rfl, .tuple ⟨[iv 0, iv 16]⟩, by kernel_rfl, WkV.flat0 (by kernel_rfl) (Nat.le_of_ble_eq_true rfl)⟩
    replace hF := of_neg hF hc19
    refine TS.sk (NX.bk (NX.sq (TS.sq ?_)))
    have hX := of_do hF
    clear hF
    obtain ⟨r20, h21, hF⟩ := hX
    refine TS.rg (TI.rn 2 [26, 27] [0, 1] (S38_8 p0 p1 p2) (H38_7 p1 p2) (TI.cp 78 [ag [iv p0, sv 0 p1.length ANY], .slice none 0 0, sv 1 p2.length ANY] (iv r20) [] (PureSim.ren (hc := (H38_5 p1 p2)) (fun i => List.getD [(0, 0), (0, 0), (1, 0)] i (0, 0)) (C78 64 _ _ _ _ _ h21) (.ac (.cons At.accN (.ac (.nil _)))) (.cons (Rn.agg' (.fl (.cons (Rn.any _ _ _ _ _ _ (Nat.le_of_ble_eq_true rfl) rfl rfl (by decide)) .nil))) (.cons (Rn.anyN _ _ _ rfl (by decide)) (.cons (Rn.any _ _ _ _ _ _ (Nat.le_of_ble_eq_true rfl) rfl rfl (by decide)) .nil))) (.flat (by kernel_rfl)) newflat_nil) (TI.ra 2 [4, 5] (st 29 [(4, iv r20), (5, iv 0)]) (TI.dn (NX.sq (TS.rt ?_))))))
    have hF := Option.some.inj hF
    subst hF
    exact ⟨.inr rfl, rfl, .tuple ⟨[iv r20, iv 0]⟩, by kernel_rfl, WkV.flat0 (by kernel_rfl) (Nat.le_of_ble_eq_true rfl)⟩
  replace hF := of_neg hF hc18
  refine TS.sk (NX.sq (TS.sq (TS.rg (TI.ra 3 [4, 5] (st 40 [(4, pt 6 0), (5, iv 0)]) (TI.dn (NX.sq (TS.rt ?_)))))))
  refine ⟨.inr rfl, rfl, .tuple ⟨[pt 6 0, iv 0]⟩, .tuple ⟨[pt 6 0, iv 0]⟩, (H38_2 p1 p2 p0 m17), by kernel_rfl, WkV.refl, (TI.rn 0 [1, 2, 11] [0, 1, 2, 5, 6] (st 29 [(1, sv 1 p2.length ANY), (2, pt 2 0), (11, .tuple ⟨[pt 6 0, iv 0]⟩)]) (H38_2 p1 p2 p0 m17) (TI.rn 5 [1, 2, 7] [0, 1, 2] (st 29 [(1, sv 1 p2.length ANY), (2, pt 2 0), (7, iv 0)]) (H38_4 p1 p2 p0) (TI.dn (NX.sq (TS.sq (TS.bk 0 (TS.sq (TS.rg ?_))))))))⟩
  refine TI.ra 7 [1, 2, 7, 14] (st 29 [(1, sv 1 p2.length ANY), (2, pt 2 0), (7, iv 0), (14, .bool false)]) (TI.dn (NX.sq (TS.cdF (.tmp 14) (TS.sq (TS.rg (TI.ra 4 [1, 2, 22] (S38_10 p2 p0) (TI.dn (NX.sq ?_))))))))
  refine TS.cd (.tmp 22) (decide (p0 > 14)) (fun hc22 => ?_) (fun hc22 => ?_)
  · replace hF := of_pos hF hc22
    refine TS.sq (TS.rg (TI.rn 2 [4, 5] [0, 1] (st 29 [(4, iv 0), (5, iv 16)]) (H38_7 p1 p2) (TI.dn (NX.sq (TS.rt (NX.bkR (NX.sqR ?_)))))))
    have hF := Option.some.inj hF
    subst hF
    exact ⟨.inr rfl, rfl, .tuple ⟨[iv 0, iv 16]⟩, by kernel_rfl, WkV.flat0 (by kernel_rfl) (Nat.le_of_ble_eq_true rfl)⟩
  replace hF := of_neg hF hc22
  refine TS.sk (NX.bk (NX.sq (TS.sq ?_)))
  have hX := of_do hF
  clear hF
  obtain ⟨r23, h24, hF⟩ := hX
  refine TS.rg (TI.rn 2 [26, 27] [0, 1] (S38_8 p0 p1 p2) (H38_7 p1 p2) (TI.cp 78 [ag [iv p0, sv 0 p1.length ANY], .slice none 0 0, sv 1 p2.length ANY] (iv r23) [] (PureSim.ren (hc := (H38_5 p1 p2)) (fun i => List.getD [(0, 0), (0, 0), (1, 0)] i (0, 0)) (C78 64 _ _ _ _ _ h24) (.ac (.cons At.accN (.ac (.nil _)))) (.cons (Rn.agg' (.fl (.cons (Rn.any _ _ _ _ _ _ (Nat.le_of_ble_eq_true rfl) rfl rfl (by decide)) .nil))) (.cons (Rn.anyN _ _ _ rfl (by decide)) (.cons (Rn.any _ _ _ _ _ _ (Nat.le_of_ble_eq_true rfl) rfl rfl (by decide)) .nil))) (.flat (by kernel_rfl)) newflat_nil) (TI.ra 2 [4, 5] (st 29 [(4, iv r23), (5, iv 0)]) (TI.dn (NX.sq (TS.rt ?_))))))
  have hF := Option.some.inj hF
  subst hF
  exact ⟨.inr rfl, rfl, .tuple ⟨[iv r23, iv 0]⟩, by kernel_rfl, WkV.flat0 (by kernel_rfl) (Nat.le_of_ble_eq_true rfl)⟩
 rcases Bool.eq_false_or_eq_true (r12.2.1) with hc14 | hc14
 · replace hm25 := of_pos hm25 hc14
   have hm25 := Option.some.inj hm25
   subst hm25
   exact TS.rg (TI.o { val := .bool true } (q_conv (e := r12.2.1) (b := true) (by kernel_rfl) hc14) [1, 7, 32] [0, 1, 2, 5, 6] (st 40 [(1, sv 1 p2.length ANY), (7, pt 6 0), (32, .bool true)]) (H38_1 p1 p2 p0 r12) (TI.ra 6 [7, 38] (st 40 [(7, pt 6 0), (38, .bool true)]) (TI.dn hK)))
 replace hm25 := of_neg hm25 hc14
 have hX := of_do hm25
 clear hm25
 obtain ⟨r15, h16, hm25⟩ := hX
 have hm25 := Option.some.inj hm25
 subst hm25
 exact TS.rg (TI.o { val := .bool false } (q_conv (e := r12.2.1) (b := false) (by kernel_rfl) hc14) [1, 7, 32] [0, 1, 2, 5, 6] (st 40 [(1, sv 1 p2.length ANY), (7, pt 6 0), (32, .bool false)]) (H38_1 p1 p2 p0 r12) (TI.ra 3 [7, 33, 34, 35] (st 40 [(7, pt 6 0), (33, .bool false), (34, pt 6 0), (35, sv 1 p2.length ANY)]) (TI.icallM (g := 57) (args := [pt 6 0, sv 1 p2.length ANY]) (v := .bool r15.1) (by kernel_rfl) (ImpSim.frameB (n := 4) (h := (H38_1 p1 p2 p0 r12)) (ro := [cl 126 [iv p0, sv 1 p1.length ANY, .map (some 3)], ab 86 e86 p1, ab 50 e50 p2]) (wr := [mb 50 u50 u50 r12.2.2]) (wr' := [mb 50 u50 u50 r15.2]) (fun i => List.getD [(6, 0), (0, 0), (1, 0), (5, 0)] i (0, 0)) (C57 1 _ _ _ _ _ h16) rfl rfl (.cons (At.blk (b1 := cl 126 [iv p0, sv 0 p1.length ANY, .map (some 5)]) (by kernel_rfl) (RnB.lit (.fl (.cons (Rn.any _ _ _ _ _ _ (Nat.le_of_ble_eq_true rfl) rfl rfl (by decide)) (.cons (Rn.map _ (Nat.le_of_ble_eq_true rfl)) .nil))))) (.ac (.ac (.cons (At.blk (by kernel_rfl) (RnB.map _ _)) (.nil _))))) (by kernel_rfl) (by kernel_rfl) (by kernel_rfl) (.pp (.cons (Rn.any _ _ _ _ _ _ (Nat.le_of_ble_eq_true rfl) rfl rfl (by decide)) .nil)) (by kernel_rfl)) [7, 33, 36] [0, 1, 2, 5, 6] (a2 := (st 40 [(7, pt 6 0), (33, .bool false), (36, .bool r15.1)])) (h2 := [ab 86 e86 p1, ab 50 e50 p2, cl 24 [iv p0, sv 0 p1.length ANY], .dead, .dead, mb 50 u50 u50 r15.2, cl 126 [iv p0, sv 0 p1.length ANY, .map (some 5)], .dead]) (by kernel_rfl) (TI.ra 2 [7, 38] (st 40 [(7, pt 6 0), (38, .bool (!r15.1))]) (TI.dn hK)))))
theorem C38 (p0 : Int) (p1 : (List ((Int × Bool) × (Int × Bool)))) (p2 : (List (Int × Bool))) (r : (Int × Int)) (hF : F38 p0 p1 p2 = some r) : PureSim Try.prog 38 [ag [iv p0, sv 0 p1.length ANY], sv 1 p2.length ANY] (H38_11 p1 p2) (V38 2 r) (N38 2 r) :=
 PureSim.of_Fin Try.func38 (c := c38) (by kernel_rfl) (by kernel_rfl) 2 rfl [0, 1] [0, 1] (by kernel_rfl) (B38 p0 p1 p2 r hF)
end
end Go.Proofs.Ytiaippkjgmccoaa
