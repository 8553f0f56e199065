/- What functions of the program compute, and that they do. -/
import Derived.Test.YthpfffijnkmdgaaCD
set_option linter.unusedVariables false
set_option linter.unusedSimpArgs false
set_option maxRecDepth 100000
set_option maxHeartbeats 4000000
namespace Go.Proofs.Ythpfffijnkmdgaa
open Go Go.Cl
noncomputable section
def e29 (x : I2) : List Value := [.int .i64 x.1, .int .i64 x.2]
abbrev lb29 (l : List (I2)) : Blk := .cells 29 (List.flatMap e29 l)
noncomputable def c73 : Code := Try.f73.code
def F73 (p0 p1 : Int) : Option I2 :=
 if w64 (3600 * p1) = 0 then none else
 if decide ((Int.tmod p0 (w64 (3600 * p1))) < 0) then
  some (w64 ((Int.tmod p0 (w64 (3600 * p1))) + (w64 (3600 * p1))), p1)
 else
  some (Int.tmod p0 (w64 (3600 * p1)), p1)
def V73 (b : Nat) (r : I2) : Value := ag [iv r.1, iv r.2]
def N73 (b : Nat) (r : I2) : List Blk := []
theorem B73 (p0 p1 : Int) (r : I2) (hF : F73 p0 p1 = some r) : TS Pg 0 0 c73 (st 21 [(0, ag [iv p0, iv p1])]) [] (NX Pg 0 0 [] (FinP Pg Try.f73 0 (V73 0 r) (N73 0 r))) := by
 unfold F73 at hF
 refine TS.sq (TS.rg (TI.rn 2 [1, 2] [0, 1] (st 21 [(1, pt 0 0), (2, pt 1 0)]) [cl 101 [iv p0, iv p1], cl 101 [iv 0, iv 0]] (TI.dq (TS.sq (TS.rg (TI.ra 4 [1, 2, 3] (st 21 [(1, pt 0 0), (2, pt 1 0), (3, iv (w64 (3600 * p1)))]) (TI.dn ?_)))))))
 refine NX.sq (TS.sq (TS.sq ?_))
 obtain ⟨hg1, hF⟩ := of_guardn hF
 refine TS.rg (TI.ra 3 [1, 2, 3, 9, 10] (st 21 [(1, pt 0 0), (2, pt 1 0), (3, iv (w64 (3600 * p1))), (9, iv p0), (10, iv (w64 (3600 * p1)))]) (TI.o { val := iv (Int.tmod p0 (w64 (3600 * p1))) } (q_int (P := Pg) (op := .rem) (ty := 3) (ox := (.tmp 9)) (oy := (.tmp 10)) (k := .i64) (k' := .i64) (y := p0) (z := w64 (3600 * p1)) (by kernel_rfl) (rem_ok hg1)) [1, 2, 3, 11] [0, 1] (st 21 [(1, pt 0 0), (2, pt 1 0), (3, iv (w64 (3600 * p1))), (11, iv (Int.tmod p0 (w64 (3600 * p1))))]) [cl 101 [iv p0, iv p1], cl 101 [iv 0, iv 0]] (TI.ra 1 [1, 2, 3, 4] (st 21 [(1, pt 0 0), (2, pt 1 0), (3, iv (w64 (3600 * p1))), (4, iv (Int.tmod p0 (w64 (3600 * p1))))]) (TI.dq (TS.bk 0 (TS.sq (TS.bk 2 ?_)))))))
 refine TS.sq (TS.bk 1 (TS.sq (TS.sq (TS.rg (TI.ra 3 [1, 2, 3, 4, 12] (st 21 [(1, pt 0 0), (2, pt 1 0), (3, iv (w64 (3600 * p1))), (4, iv (Int.tmod p0 (w64 (3600 * p1)))), (12, .bool (decide ((Int.tmod p0 (w64 (3600 * p1))) < 0)))]) (TI.dq ?_))))))
 refine TS.cd (.tmp 12) (decide ((Int.tmod p0 (w64 (3600 * p1))) < 0)) (fun hc3 => ?_) (fun hc3 => ?_)
 · replace hF := of_pos hF hc3
   refine TS.ex 1 (NX.sqX (NX.bkX (NX.sq (TS.rg (TI.ra 4 [1, 2, 4] (st 21 [(1, pt 0 0), (2, pt 1 0), (4, iv (w64 ((Int.tmod p0 (w64 (3600 * p1))) + (w64 (3600 * p1)))))]) (TI.dn (NX.bk (NX.sq ?_))))))))
   refine TS.sq (TS.rg (TI.rn 3 [1, 2] [0, 1] (st 21 [(1, pt 0 0), (2, pt 1 0)]) [cl 101 [iv (w64 ((Int.tmod p0 (w64 (3600 * p1))) + (w64 (3600 * p1)))), iv p1], cl 101 [iv 0, iv 0]] (TI.dq (TS.ex 0 (NX.bkX (NX.sq (TS.sq ?_)))))))
   refine TS.rg (TI.rn 2 [2] [1] (st 21 [(2, pt 1 0)]) [.dead, cl 101 [iv (w64 ((Int.tmod p0 (w64 (3600 * p1))) + (w64 (3600 * p1)))), iv p1]] (TI.dq (TS.rt ?_)))
   have hF := sj hF
   subst hF
   exact ⟨.inr rfl, rfl, ag [iv (w64 ((Int.tmod p0 (w64 (3600 * p1))) + (w64 (3600 * p1)))), iv p1], by kernel_rfl, WkV.flat0 (by kernel_rfl) (nl rfl)⟩
 replace hF := of_neg hF hc3
 refine TS.sk (NX.sq (TS.ex 2 (NX.bkY rfl (NX.sqX (NX.bkX (NX.sq (TS.sq (TS.rg ?_))))))))
 refine TI.rn 3 [1, 2] [0, 1] (st 21 [(1, pt 0 0), (2, pt 1 0)]) [cl 101 [iv (Int.tmod p0 (w64 (3600 * p1))), iv p1], cl 101 [iv 0, iv 0]] (TI.dq (TS.ex 0 (NX.bkX (NX.sq (TS.sq (TS.rg (TI.rn 2 [2] [1] (st 21 [(2, pt 1 0)]) [.dead, cl 101 [iv (Int.tmod p0 (w64 (3600 * p1))), iv p1]] ?_)))))))
 refine TI.dn (NX.sq (TS.rt ?_))
 have hF := sj hF
 subst hF
 exact ⟨.inr rfl, rfl, ag [iv (Int.tmod p0 (w64 (3600 * p1))), iv p1], by kernel_rfl, WkV.flat0 (by kernel_rfl) (nl rfl)⟩
theorem C73 (p0 p1 : Int) (r : I2) (hF : F73 p0 p1 = some r) : PureSim Pg 73 [ag [iv p0, iv p1]] [] (V73 0 r) (N73 0 r) :=
 PureSim.of_Fin Try.func73 (c := c73) (by kernel_rfl) (by kernel_rfl) 0 rfl [0] [] (by kernel_rfl) (B73 p0 p1 r hF)
noncomputable def c65 : Code := Try.f65.code
noncomputable def H65_0 (p0 : List I2) (p1 : Int) (v445 : List I2) (o402 : I2) (m411 : Int) (o406 r505 r507 r511 : I2) : List Blk := [ab 55 e55 p0, cl 3 [iv p1], cl 111 [.slice none 0 0], cl 4 [.bool false], cl 111 [accV 13 v445.length], cl 23 [sl 0 p0], .mark, .loop (st 77 [(3, pt 1 0), (4, pt 2 0), (5, pt 3 0), (6, pt 4 0), (14, .func (.func 98) ⟨[]⟩ ⟨[pt 5 0]⟩)]).tmps [15, 16] c65.s2.s2.s1.s2.bd.ras c65.s2.s2.s1.s2.bd.rbd .busy none, .dead, .dead, .dead, cl 55 [iv o402.1, iv o402.2], cl 55 [iv m411, iv o406.2], ab 101 e101 v445, cl 101 [iv r505.1, iv r505.2], cl 101 [iv r507.1, iv r507.2], cl 101 [iv r511.1, iv r511.2]]
noncomputable def H65_1 (p0 : List I2) (p1 : Int) (v445 : List I2) (o402 : I2) (m411 : Int) (o406 r505 r507 : I2) : List Blk := [ab 55 e55 p0, cl 3 [iv p1], cl 111 [.slice none 0 0], cl 4 [.bool false], cl 111 [accV 13 v445.length], cl 23 [sl 0 p0], .mark, .loop (st 77 [(3, pt 1 0), (4, pt 2 0), (5, pt 3 0), (6, pt 4 0), (14, .func (.func 98) ⟨[]⟩ ⟨[pt 5 0]⟩)]).tmps [15, 16] c65.s2.s2.s1.s2.bd.ras c65.s2.s2.s1.s2.bd.rbd .busy none, .dead, .dead, .dead, cl 55 [iv o402.1, iv o402.2], cl 55 [iv m411, iv o406.2], ab 101 e101 v445, cl 101 [iv r505.1, iv r505.2], cl 101 [iv r507.1, iv r507.2]]
noncomputable def H65_2 (p0 : List I2) (p1 : Int) (v445 : List I2) (o402 : I2) (m411 : Int) (o406 r505 : I2) : List Blk := [ab 55 e55 p0, cl 3 [iv p1], cl 111 [.slice none 0 0], cl 4 [.bool false], cl 111 [accV 13 v445.length], cl 23 [sl 0 p0], .mark, .loop (st 77 [(3, pt 1 0), (4, pt 2 0), (5, pt 3 0), (6, pt 4 0), (14, .func (.func 98) ⟨[]⟩ ⟨[pt 5 0]⟩)]).tmps [15, 16] c65.s2.s2.s1.s2.bd.ras c65.s2.s2.s1.s2.bd.rbd .busy none, .dead, .dead, .dead, cl 55 [iv o402.1, iv o402.2], cl 55 [iv m411, iv o406.2], ab 101 e101 v445, cl 101 [iv r505.1, iv r505.2]]
noncomputable def H65_3 (p0 : List I2) (p1 : Int) (v445 : List I2) (o402 : I2) (m411 : Int) (o406 : I2) : List Blk := [ab 55 e55 p0, cl 3 [iv p1], cl 111 [.slice none 0 0], cl 4 [.bool false], cl 111 [accV 13 v445.length], cl 23 [sl 0 p0], .mark, .loop (st 77 [(3, pt 1 0), (4, pt 2 0), (5, pt 3 0), (6, pt 4 0), (14, .func (.func 98) ⟨[]⟩ ⟨[pt 5 0]⟩)]).tmps [15, 16] c65.s2.s2.s1.s2.bd.ras c65.s2.s2.s1.s2.bd.rbd .busy none, .dead, .dead, .dead, cl 55 [iv o402.1, iv o402.2], cl 55 [iv m411, iv o406.2], ab 101 e101 v445]
noncomputable def H65_4 (p0 : List I2) (p1 : Int) (v173 : List I2) (o402 : I2) (m411 : Int) (o406 : I2) : List Blk := [ab 55 e55 p0, cl 3 [iv p1], cl 111 [.slice none 0 0], cl 4 [.bool false], cl 111 [accV 8 v173.length], cl 23 [sl 0 p0], .mark, .loop (st 77 [(3, pt 1 0), (4, pt 2 0), (5, pt 3 0), (6, pt 4 0), (14, .func (.func 98) ⟨[]⟩ ⟨[pt 5 0]⟩)]).tmps [15, 16] c65.s2.s2.s1.s2.bd.ras c65.s2.s2.s1.s2.bd.rbd .busy none, ab 101 e101 v173, .dead, .dead, cl 55 [iv o402.1, iv o402.2], cl 55 [iv m411, iv o406.2]]
noncomputable def H65_5 (p0 : List I2) (p1 : Int) (v173 : List I2) (o402 : I2) : List Blk := [ab 55 e55 p0, cl 3 [iv p1], cl 111 [.slice none 0 0], cl 4 [.bool false], cl 111 [accV 8 v173.length], cl 23 [sl 0 p0], .mark, .loop (st 77 [(3, pt 1 0), (4, pt 2 0), (5, pt 3 0), (6, pt 4 0), (14, .func (.func 98) ⟨[]⟩ ⟨[pt 5 0]⟩)]).tmps [15, 16] c65.s2.s2.s1.s2.bd.ras c65.s2.s2.s1.s2.bd.rbd .ready none, ab 101 e101 v173, cl 55 [iv o402.1, iv o402.2]]
noncomputable def H65_6 (p0 : List I2) (p1 : Int) (o516 : List I2) : List Blk := [ab 55 e55 p0, cl 3 [iv p1], cl 111 [.slice none 0 0], cl 4 [.bool false], cl 111 [accV 11 o516.length], cl 23 [sl 0 p0], .mark, .loop (st 77 [(3, pt 1 0), (4, pt 2 0), (5, pt 3 0), (6, pt 4 0), (14, .func (.func 98) ⟨[]⟩ ⟨[pt 5 0]⟩)]).tmps [15, 16] c65.s2.s2.s1.s2.bd.ras c65.s2.s2.s1.s2.bd.rbd .done (some .ret), .dead, .dead, .dead, ab 101 e101 o516]
noncomputable def H65_7 (p0 : List I2) (p1 : Int) (o517 : List I2) : List Blk := [ab 55 e55 p0, cl 3 [iv p1], cl 111 [.slice none 0 0], cl 4 [.bool false], cl 111 [accV 11 o517.length], cl 23 [sl 0 p0], .mark, .loop (st 77 [(3, pt 1 0), (4, pt 2 0), (5, pt 3 0), (6, pt 4 0), (14, .func (.func 98) ⟨[]⟩ ⟨[pt 5 0]⟩)]).tmps [15, 16] c65.s2.s2.s1.s2.bd.ras c65.s2.s2.s1.s2.bd.rbd .ready none, .dead, .dead, .dead, ab 101 e101 o517]
noncomputable def H65_8 (p0 : List I2) (p1 : Int) (v173 : List I2) : List Blk := [ab 55 e55 p0, cl 3 [iv p1], cl 111 [.slice none 0 0], cl 4 [.bool false], cl 111 [accV 8 v173.length], cl 23 [sl 0 p0], .mark, .loop (st 77 [(3, pt 1 0), (4, pt 2 0), (5, pt 3 0), (6, pt 4 0), (14, .func (.func 98) ⟨[]⟩ ⟨[pt 5 0]⟩)]).tmps [15, 16] c65.s2.s2.s1.s2.bd.ras c65.s2.s2.s1.s2.bd.rbd .ready none, ab 101 e101 v173]
def S65_17 (r413 r415 r417 r419 v468 : Int) : CAct := (st 77 [(4, pt 2 0), (5, pt 3 0), (6, pt 4 0), (7, pt 11 0), (8, pt 12 0), (9, iv (mn r413 r415)), (10, iv (mx r417 r419)), (11, iv v468)])
def S65_9 (r413 r415 r417 r419 v468 : Int) (v445 : List I2) (r505 o402 r507 r509 r511 : I2) : CAct := sx (S65_17 r413 r415 r417 r419 v468) [(12, pt 14 0), (64, accV 13 v445.length), (65, ag [iv r505.1, iv r505.2]), (66, pt 11 0), (67, iv o402.1), (68, ag [iv r507.1, iv r507.2]), (69, sv 15 1 1), (70, ag [iv r509.1, iv r509.2]), (71, ag [iv r511.1, iv r511.2]), (72, sv 16 1 1)]
def S65_12 (p0 : List I2) (v172 : Int) : CAct := (st 36 [(0, .func (.yield 7) #[] #[]), (1, pt 5 0), (4, pt 9 0), (5, pt 10 0), (6, sl 0 p0), (7, iv (p0.length : Int)), (8, iv v172)])
def S65_13 (p0 : List I2) (v172 : Int) : CAct := (st 36 [(0, .func (.yield 7) #[] #[]), (1, pt 5 0), (6, sl 0 p0), (7, iv (p0.length : Int)), (8, iv (w64 (v172 + 1)))])
def S65_14 (r413 r415 r417 r419 v468 : Int) : CAct := (st 77 [(4, pt 2 0), (5, pt 3 0), (6, pt 4 0), (7, pt 11 0), (8, pt 12 0), (9, iv (mn r413 r415)), (10, iv (mx r417 r419)), (11, iv (w64 (v468 + 3600)))])
def S65_15 (p0 : List I2) (v172 : Int) : CAct := (st 36 [(0, .func (.yield 7) #[] #[]), (1, pt 5 0), (6, sl 0 p0), (7, iv (p0.length : Int)), (8, iv v172)])
def S65_16 (p0 : List I2) : CAct := (st 36 [(0, .func (.yield 7) #[] #[]), (1, pt 5 0), (6, sl 0 p0), (7, iv (p0.length : Int)), (8, iv 0)])
def H65_10 (p0 o522 : List I2) : List Blk := [ab 55 e55 p0, .dead, cl 111 [.slice none 0 0], cl 4 [.bool false], cl 111 [accV 8 o522.length], .dead, .mark, .dead, ab 101 e101 o522]
def H65_11 (p0 : List I2) (p1 : Int) : List Blk := [ab 55 e55 p0, cl 3 [iv p1], cl 111 [.slice none 0 0], cl 4 [.bool false], cl 111 [.slice none 0 0], cl 23 [sl 0 p0]]
def S65_18  : CAct := (st 77 [(3, pt 1 0), (4, pt 2 0), (5, pt 3 0), (6, pt 4 0), (14, .func (.func 98) ⟨[]⟩ ⟨[pt 5 0]⟩)])
noncomputable def c65f88 : Code := Try.f88.code
noncomputable def c65f98 : Code := Try.f98.code
def F65l1 (p0 : List I2) (p1 m411 : Int) (o402 o406 : I2) (r413 r415 r417 r419 v468 : Int) (v445 : List I2) : Option ((List I2) ⊕ (List I2)) :=
 if decide (v468 ≤ (mx r417 r419)) then
  if (mn r413 r415) == (mx r417 r419) then
   some (.inl v445)
  else
   F72 m411 o406.2 >>= fun r495 =>
   if v468 == r495 then
    F65l1 p0 p1 m411 o402 o406 r413 r415 r417 r419 (w64 (v468 + 3600)) v445
   else
    F72 o402.1 o402.2 >>= fun r499 =>
    F72 m411 o406.2 >>= fun r501 =>
    F72 o402.1 o402.2 >>= fun r503 =>
    F89 (w64 ((w64 (v468 - r499)) * (w64 (m411 - o402.1)))) (w64 (r501 - r503)) >>= fun r505 =>
    F55 o402.1 >>= fun r507 =>
    F77 r505.1 r505.2 ([(r507.1, r507.2)]) >>= fun r509 =>
    F73 r509.1 r509.2 >>= fun r511 =>
    if List.length v445 ≤ 1000000000 then
     F65l1 p0 p1 m411 o402 o406 r413 r415 r417 r419 (w64 (v468 + 3600)) (v445 ++ [(r511.1, r511.2)])
    else none
 else
  some (.inr v445)
 partial_fixpoint
def F65l0 (p0 : List I2) (p1 v172 : Int) (v173 : List I2) : Option ((List I2) ⊕ (List I2)) :=
 if decide (v172 < (p0.length : Int)) then
  if (0 : Int) ≤ v172 ∧ v172 < (p0.length : Int) then
   some (List.getD p0 v172.toNat (0, 0)) >>= fun o402 =>
   if (p0.length : Int) = 0 then none else
   if (0 : Int) ≤ Int.tmod (w64 (v172 + 1)) (p0.length : Int) ∧ Int.tmod (w64 (v172 + 1)) (p0.length : Int) < (p0.length : Int) then
    some (List.getD p0 (Int.tmod (w64 (v172 + 1)) (p0.length : Int)).toNat (0, 0)) >>= fun o406 =>
    (
     if (w64 (v172 + 1)) == (p0.length : Int) then
      some (w64 (o406.1 + 3600))
     else
      some o406.1
    : Option Int) >>= fun m411 =>
    F72 o402.1 o402.2 >>= fun r413 =>
    F72 m411 o406.2 >>= fun r415 =>
    F72 o402.1 o402.2 >>= fun r417 =>
    F72 m411 o406.2 >>= fun r419 =>
    some (Int.tmod (w64 ((Int.tmod (w64 (p1 - (mn r413 r415))) 3600) + 3600)) 3600) >>= fun o421 =>
    F65l1 p0 p1 m411 o402 o406 r413 r415 r417 r419 (w64 ((mn r413 r415) + o421)) v173 >>= fun r514 =>
    match r514 with
    | .inl o516 =>
     some (.inl o516)
    | .inr o517 =>
     F65l0 p0 p1 (w64 (v172 + 1)) o517
   else none
  else none
 else
  some (.inr v173)
 partial_fixpoint
def F65 (p0 : List I2) (p1 : Int) : Option ((List I2) × Bool) :=
 F65l0 p0 p1 0 ([]) >>= fun r519 =>
 match r519 with
 | .inl o521 =>
  some ([], false)
 | .inr o522 =>
  sort92 o522 >>= fun r523 =>
  some (r523, true)
def V65 (b : Nat) (r : (List I2) × Bool) : Value := .tuple ⟨[accV (b + 0) r.1.length, .bool r.2]⟩
def N65 (b : Nat) (r : (List I2) × Bool) : List Blk := [ab 101 e101 r.1]
def P65l1 (p0 : List I2) (p1 m411 : Int) (o402 o406 : I2) (r413 r415 r417 r419 : Int) (r : (List I2) ⊕ (List I2)) : Post := fun e a h => (match r with | .inl q0 => e = .ret ∧ Wk Pg 1 11 a h (st 77 []) [ab 55 e55 p0, cl 3 [iv p1], cl 111 [.slice none 0 0], cl 4 [.bool false], cl 111 [accV 11 q0.length], cl 23 [sl 0 p0], .mark, .loop (S65_18).tmps [15, 16] c65.s2.s2.s1.s2.bd.ras c65.s2.s2.s1.s2.bd.rbd .busy none, .dead, .dead, .dead, ab 101 e101 q0] | .inr q0 => e = .exit 2 ∧ Wk Pg 1 11 a h (st 77 []) [ab 55 e55 p0, cl 3 [iv p1], cl 111 [.slice none 0 0], cl 4 [.bool false], cl 111 [accV 11 q0.length], cl 23 [sl 0 p0], .mark, .loop (S65_18).tmps [15, 16] c65.s2.s2.s1.s2.bd.ras c65.s2.s2.s1.s2.bd.rbd .busy none, .dead, .dead, .dead, ab 101 e101 q0])
theorem L65l1 (p0 : List I2) (p1 m411 : Int) (o402 o406 : I2) (r413 r415 r417 r419 v468 : Int) (v445 : List I2) (r : (List I2) ⊕ (List I2)) (hF : F65l1 p0 p1 m411 o402 o406 r413 r415 r417 r419 v468 v445 = some r) : TL Pg 1 11 c65.s2.s2.s1.s2.bd.rbd.bd.s2.s2.bd.bd (S65_17 r413 r415 r417 r419 v468) (H65_3 p0 p1 v445 o402 m411 o406) (P65l1 p0 p1 m411 o402 o406 r413 r415 r417 r419 r) := by
 refine F65l1.partial_correctness p0 p1 m411 o402 o406 r413 r415 r417 r419 (motive := fun v468 v445 r => TL Pg 1 11 c65.s2.s2.s1.s2.bd.rbd.bd.s2.s2.bd.bd (S65_17 r413 r415 r417 r419 v468) (H65_3 p0 p1 v445 o402 m411 o406) (P65l1 p0 p1 m411 o402 o406 r413 r415 r417 r419 r)) ?_ v468 v445 r hF
 clear hF r v468 v445
 intro again ih v468 v445 r hF
 refine TL.round (TS.sq (TS.sq (TS.rg (TI.ra 3 [4, 5, 6, 7, 8, 9, 10, 11, 37] (st 77 [(4, pt 2 0), (5, pt 3 0), (6, pt 4 0), (7, pt 11 0), (8, pt 12 0), (9, iv (mn r413 r415)), (10, iv (mx r417 r419)), (11, iv v468), (37, .bool (decide (v468 ≤ (mx r417 r419))))]) (TI.dq ?_)))))
 refine TS.cd (.tmp 37) (decide (v468 ≤ (mx r417 r419))) (fun hc493 => ?_) (fun hc493 => ?_)
 · replace hF := of_pos hF hc493
   refine TS.sk (NX.sq (TS.sq (TS.bk 3 (TS.sq (TS.sq (TS.rg (TI.ra 3 [4, 5, 6, 7, 8, 9, 10, 11, 42] (st 77 [(4, pt 2 0), (5, pt 3 0), (6, pt 4 0), (7, pt 11 0), (8, pt 12 0), (9, iv (mn r413 r415)), (10, iv (mx r417 r419)), (11, iv v468), (42, .bool ((mn r413 r415) == (mx r417 r419)))]) (TI.dn ?_))))))))
   refine NX.sq ?_
   refine TS.cd (.tmp 42) ((mn r413 r415) == (mx r417 r419)) (fun hc494 => ?_) (fun hc494 => ?_)
   · replace hF := of_pos hF hc494
     refine TS.sq (TS.rg (TI.rn 2 [] [0, 1, 2, 3, 4, 5, 6, 7, 13] (st 77 []) [ab 55 e55 p0, cl 3 [iv p1], cl 111 [.slice none 0 0], cl 4 [.bool false], cl 111 [accV 13 v445.length], cl 23 [sl 0 p0], .mark, .loop (S65_18).tmps [15, 16] c65.s2.s2.s1.s2.bd.ras c65.s2.s2.s1.s2.bd.rbd .busy none, .dead, .dead, .dead, .dead, .dead, ab 101 e101 v445] (TI.dq (TS.rt (NX.sqR (NX.bkR (NX.sqR ?_)))))))
     have hF := sj hF
     subst hF
     exact Rd.out (e := .ret) (by intro h; cases h) (And.intro rfl (Wk.an [13] (.ac (.lt (.fl .nil) (.lt (.fl .nil) (.lt (.fl .nil) (.lt (.cons (Rn.acc (nl rfl) rfl) .nil) (.lt (.sl .nil) (.cons (At.blk (by kernel_rfl) RnB.mark) (.cons (At.blk (b1 := .loop (S65_18).tmps [15, 16] c65.s2.s2.s1.s2.bd.ras c65.s2.s2.s1.s2.bd.rbd .busy none) (by kernel_rfl) (RnB.loop _ _ _ _ _ _ _ (LRn.stx [3, 4, 5, 6, 14] [pt 1 0, pt 2 0, pt 3 0, pt 4 0, .func (.func 98) ⟨[]⟩ ⟨[pt 5 0]⟩] [pt 1 0, pt 2 0, pt 3 0, pt 4 0, .func (.func 98) ⟨[]⟩ ⟨[pt 5 0]⟩] (.pp (.pp (.pp (.pp (.cons (Rn.func' .nil (.pp .nil)) .nil))))) (by kernel_rfl) (by kernel_rfl) rfl))) (.cons (.inl rfl) (.cons (.inl rfl) (.cons (.inl rfl) (.ac (.nil _))))))))))))) [] .nil))
   replace hF := of_neg hF hc494
   refine TS.sk (NX.sq (TS.sq (TS.sq ?_)))
   obtain ⟨r495, h496, hF⟩ := of_do hF
   refine TS.rg (TI.ra 2 [4, 5, 6, 7, 8, 9, 10, 11, 43, 44] (st 77 [(4, pt 2 0), (5, pt 3 0), (6, pt 4 0), (7, pt 11 0), (8, pt 12 0), (9, iv (mn r413 r415)), (10, iv (mx r417 r419)), (11, iv v468), (43, iv v468), (44, ag [iv m411, iv o406.2])]) (TI.cf (C72 _ _ _ h496) (TI.ra 1 [4, 5, 6, 7, 8, 9, 10, 11, 46] (st 77 [(4, pt 2 0), (5, pt 3 0), (6, pt 4 0), (7, pt 11 0), (8, pt 12 0), (9, iv (mn r413 r415)), (10, iv (mx r417 r419)), (11, iv v468), (46, .bool (v468 == r495))]) (TI.dq ?_))))
   refine TS.cd (.tmp 46) (v468 == r495) (fun hc498 => ?_) (fun hc498 => ?_)
   · replace hF := of_pos hF hc498
     refine TS.ex 3 (NX.sqX (NX.bkX (NX.sq (TS.rg (TI.ra 3 [4, 5, 6, 7, 8, 9, 10, 11] (S65_14 r413 r415 r417 r419 v468) (TI.dn ?_))))))
     exact Rd.again (a2 := (S65_14 r413 r415 r417 r419 v468)) (h2 := (H65_3 p0 p1 v445 o402 m411 o406)) (Wk.an [11, 12, 13] (.ac (.lt (.fl .nil) (.lt (.fl .nil) (.lt (.fl .nil) (.lt (.cons (Rn.acc (nl rfl) rfl) .nil) (.lt (.sl .nil) (.cons (At.blk (by kernel_rfl) RnB.mark) (.cons (At.blk (b1 := .loop (S65_18).tmps [15, 16] c65.s2.s2.s1.s2.bd.ras c65.s2.s2.s1.s2.bd.rbd .busy none) (by kernel_rfl) (RnB.loop _ _ _ _ _ _ _ (LRn.stx [3, 4, 5, 6, 14] [pt 1 0, pt 2 0, pt 3 0, pt 4 0, .func (.func 98) ⟨[]⟩ ⟨[pt 5 0]⟩] [pt 1 0, pt 2 0, pt 3 0, pt 4 0, .func (.func 98) ⟨[]⟩ ⟨[pt 5 0]⟩] (.pp (.pp (.pp (.pp (.cons (Rn.func' .nil (.pp .nil)) .nil))))) (by kernel_rfl) (by kernel_rfl) rfl))) (.cons (.inl rfl) (.cons (.inl rfl) (.cons (.inl rfl) (.lt (.fl (.fl .nil)) (.lt (.fl (.fl .nil)) (.ac (.nil _))))))))))))))) [pt 2 0, pt 3 0, pt 4 0, pt 11 0, pt 12 0, iv (mn r413 r415), iv (mx r417 r419), iv (w64 (v468 + 3600))] (.pp (.pp (.pp (.pp (.pp (.fl (.fl (.fl .nil))))))))) (ih (w64 (v468 + 3600)) v445 _ hF)
   replace hF := of_neg hF hc498
   refine TS.sk (NX.sq (TS.sq ?_))
   obtain ⟨r499, h500, hF⟩ := of_do hF
   obtain ⟨r501, h502, hF⟩ := of_do hF
   obtain ⟨r503, h504, hF⟩ := of_do hF
   obtain ⟨r505, h506, hF⟩ := of_do hF
   have hT : ∀ e ∈ ([⟨72, [ag [iv o402.1, iv o402.2]], (H65_3 p0 p1 v445 o402 m411 o406), iv r499, []⟩, ⟨72, [ag [iv m411, iv o406.2]], (H65_3 p0 p1 v445 o402 m411 o406), iv r501, []⟩, ⟨72, [ag [iv o402.1, iv o402.2]], (H65_3 p0 p1 v445 o402 m411 o406), iv r503, []⟩, ⟨89, [ag [iv (w64 ((w64 (v468 - r499)) * (w64 (m411 - o402.1)))), iv (w64 (r501 - r503))]], (H65_3 p0 p1 v445 o402 m411 o406), ag [iv r505.1, iv r505.2], []⟩] : List Entry), PureSim Pg e.g e.args e.h e.v e.new := by
    intro e he
    simp only [List.mem_cons, List.not_mem_nil, or_false] at he
    rcases he with rfl | rfl | rfl | rfl
    · exact PureSim.ak (C72 _ _ _ h500)
    · exact PureSim.ak (C72 _ _ _ h502)
    · exact PureSim.ak (C72 _ _ _ h504)
    exact PureSim.ak (C89 _ _ _ h506)
   refine TS.dp [⟨72, [ag [iv o402.1, iv o402.2]], (H65_3 p0 p1 v445 o402 m411 o406), iv r499, []⟩, ⟨72, [ag [iv m411, iv o406.2]], (H65_3 p0 p1 v445 o402 m411 o406), iv r501, []⟩, ⟨72, [ag [iv o402.1, iv o402.2]], (H65_3 p0 p1 v445 o402 m411 o406), iv r503, []⟩, ⟨89, [ag [iv (w64 ((w64 (v468 - r499)) * (w64 (m411 - o402.1)))), iv (w64 (r501 - r503))]], (H65_3 p0 p1 v445 o402 m411 o406), ag [iv r505.1, iv r505.2], []⟩] hT mixed 18 [4, 5, 6, 7, 8, 9, 10, 11, 12] [0, 1, 2, 3, 4, 5, 6, 7, 11, 12, 13, 14] (st 77 [(4, pt 2 0), (5, pt 3 0), (6, pt 4 0), (7, pt 11 0), (8, pt 12 0), (9, iv (mn r413 r415)), (10, iv (mx r417 r419)), (11, iv v468), (12, pt 14 0)]) (H65_2 p0 p1 v445 o402 m411 o406 r505) ?_ ?_
   · refine QJ.rn (qs (st 77 [(4, pt 2 0), (5, pt 3 0), (6, pt 4 0), (7, pt 11 0), (8, pt 12 0), (9, iv (mn r413 r415)), (10, iv (mx r417 r419)), (11, iv v468), (46, .bool (v468 == r495)), (47, iv v468), (48, ag [iv o402.1, iv o402.2])]) (H65_3 p0 p1 v445 o402 m411 o406) [] []) 2 (QJ.o { val := iv r499, new := [] } (qOf_call (g := 72) (args := [ag [iv o402.1, iv o402.2]]) (by kernel_rfl) lookC_hit) (QJ.rn (qs (st 77 [(4, pt 2 0), (5, pt 3 0), (6, pt 4 0), (7, pt 11 0), (8, pt 12 0), (9, iv (mn r413 r415)), (10, iv (mx r417 r419)), (11, iv v468), (46, .bool (v468 == r495)), (47, iv v468), (48, ag [iv o402.1, iv o402.2]), (49, iv r499), (50, iv (w64 (v468 - r499))), (51, pt 12 0), (52, iv m411), (53, pt 11 0), (54, iv o402.1), (55, iv (w64 (m411 - o402.1))), (56, iv (w64 ((w64 (v468 - r499)) * (w64 (m411 - o402.1))))), (57, ag [iv m411, iv o406.2])]) (H65_3 p0 p1 v445 o402 m411 o406) [] []) 8 ?_))
     refine QJ.o { val := iv r501, new := [] } (qOf_call (g := 72) (args := [ag [iv m411, iv o406.2]]) (by kernel_rfl) (lookC_skip (by intro _ ha hh; first | (exact absurd (congrArg List.length hh) (Nat.ne_of_beq_eq_false rfl)) | (have hr := sj (h500.symm.trans (Eq.trans (congr (congrArg F72 (show o402.1 = m411 from congrArg (leafI 0) ha)) (show o402.2 = o406.2 from congrArg (leafI 1) ha)) h502)); first | (subst hr; rfl) | (cases hr; done) | (cases hr; rfl))) lookC_hit)) (QJ.rn (qs (st 77 [(4, pt 2 0), (5, pt 3 0), (6, pt 4 0), (7, pt 11 0), (8, pt 12 0), (9, iv (mn r413 r415)), (10, iv (mx r417 r419)), (11, iv v468), (46, .bool (v468 == r495)), (47, iv v468), (48, ag [iv o402.1, iv o402.2]), (49, iv r499), (50, iv (w64 (v468 - r499))), (51, pt 12 0), (52, iv m411), (53, pt 11 0), (54, iv o402.1), (55, iv (w64 (m411 - o402.1))), (56, iv (w64 ((w64 (v468 - r499)) * (w64 (m411 - o402.1))))), (57, ag [iv m411, iv o406.2]), (58, iv r501), (59, ag [iv o402.1, iv o402.2])]) (H65_3 p0 p1 v445 o402 m411 o406) [] []) 1 ?_)
     exact QJ.o { val := iv r503, new := [] } (qOf_call (g := 72) (args := [ag [iv o402.1, iv o402.2]]) (by kernel_rfl) (lookC_skip (by intro _ ha hh; first | (exact absurd (congrArg List.length hh) (Nat.ne_of_beq_eq_false rfl)) | (have hr := sj (h500.symm.trans (Eq.trans (congr (congrArg F72 (Eq.refl o402.1)) (Eq.refl o402.2)) h504)); first | (subst hr; rfl) | (cases hr; done) | (cases hr; rfl))) (lookC_skip (by intro _ ha hh; first | (exact absurd (congrArg List.length hh) (Nat.ne_of_beq_eq_false rfl)) | (have hr := sj (h502.symm.trans (Eq.trans (congr (congrArg F72 (show m411 = o402.1 from congrArg (leafI 0) ha)) (show o406.2 = o402.2 from congrArg (leafI 1) ha)) h504)); first | (subst hr; rfl) | (cases hr; done) | (cases hr; rfl))) lookC_hit))) (QJ.rn (qs (st 77 [(4, pt 2 0), (5, pt 3 0), (6, pt 4 0), (7, pt 11 0), (8, pt 12 0), (9, iv (mn r413 r415)), (10, iv (mx r417 r419)), (11, iv v468), (46, .bool (v468 == r495)), (47, iv v468), (48, ag [iv o402.1, iv o402.2]), (49, iv r499), (50, iv (w64 (v468 - r499))), (51, pt 12 0), (52, iv m411), (53, pt 11 0), (54, iv o402.1), (55, iv (w64 (m411 - o402.1))), (56, iv (w64 ((w64 (v468 - r499)) * (w64 (m411 - o402.1))))), (57, ag [iv m411, iv o406.2]), (58, iv r501), (59, ag [iv o402.1, iv o402.2]), (60, iv r503), (61, iv (w64 (r501 - r503))), (62, ag [iv (w64 ((w64 (v468 - r499)) * (w64 (m411 - o402.1)))), iv (w64 (r501 - r503))])]) (H65_3 p0 p1 v445 o402 m411 o406) [] []) 2 (QJ.o { val := ag [iv r505.1, iv r505.2], new := [] } (qOf_call (g := 89) (args := [ag [iv (w64 ((w64 (v468 - r499)) * (w64 (m411 - o402.1)))), iv (w64 (r501 - r503))]]) (by kernel_rfl) (lookC_skip (fun hg => absurd (show (72 : Nat) = 89 from hg) (by decide)) (lookC_skip (fun hg => absurd (show (72 : Nat) = 89 from hg) (by decide)) (lookC_skip (fun hg => absurd (show (72 : Nat) = 89 from hg) (by decide)) lookC_hit)))) (QJ.rn (qs (st 77 [(4, pt 2 0), (5, pt 3 0), (6, pt 4 0), (7, pt 11 0), (8, pt 12 0), (9, iv (mn r413 r415)), (10, iv (mx r417 r419)), (11, iv v468), (12, pt 14 0), (46, .bool (v468 == r495)), (47, iv v468), (48, ag [iv o402.1, iv o402.2]), (49, iv r499), (50, iv (w64 (v468 - r499))), (51, pt 12 0), (52, iv m411), (53, pt 11 0), (54, iv o402.1), (55, iv (w64 (m411 - o402.1))), (56, iv (w64 ((w64 (v468 - r499)) * (w64 (m411 - o402.1))))), (57, ag [iv m411, iv o406.2]), (58, iv r501), (59, ag [iv o402.1, iv o402.2]), (60, iv r503), (61, iv (w64 (r501 - r503))), (62, ag [iv (w64 ((w64 (v468 - r499)) * (w64 (m411 - o402.1)))), iv (w64 (r501 - r503))]), (63, ag [iv r505.1, iv r505.2])]) [ab 55 e55 p0, cl 3 [iv p1], cl 111 [.slice none 0 0], cl 4 [.bool false], cl 111 [accV 13 v445.length], cl 23 [sl 0 p0], .mark, .loop (S65_18).tmps [15, 16] c65.s2.s2.s1.s2.bd.ras c65.s2.s2.s1.s2.bd.rbd .busy none, .dead, .dead, .dead, cl 55 [iv o402.1, iv o402.2], cl 55 [iv m411, iv o406.2], ab 101 e101 v445, cl 101 [iv 0, iv 0]] [(17, 14, 15)] []) 1 (QJ.dn ⟨rfl, SJ.la⟩))))
   obtain ⟨r507, h508, hF⟩ := of_do hF
   obtain ⟨r509, h510, hF⟩ := of_do hF
   obtain ⟨r511, h512, hF⟩ := of_do hF
   obtain ⟨hg513, hF⟩ := of_guard hF
   have hT : ∀ e ∈ ([⟨55, [iv o402.1], (H65_2 p0 p1 v445 o402 m411 o406 r505), ag [iv r507.1, iv r507.2], []⟩, ⟨77, [ag [iv r505.1, iv r505.2], sv 15 1 1], (H65_1 p0 p1 v445 o402 m411 o406 r505 r507), ag [iv r509.1, iv r509.2], []⟩, ⟨73, [ag [iv r509.1, iv r509.2]], (H65_1 p0 p1 v445 o402 m411 o406 r505 r507), ag [iv r511.1, iv r511.2], []⟩] : List Entry), PureSim Pg e.g e.args e.h e.v e.new := by
    intro e he
    simp only [List.mem_cons, List.not_mem_nil, or_false] at he
    rcases he with rfl | rfl | rfl
    · exact PureSim.ak (C55 _ _ h508)
    · exact (PureSim.ren (hc := [accB 101 (List.length ([(r507.1, r507.2)])) (List.flatMap e101 ([(r507.1, r507.2)]))]) (fun i => List.getD [(15, 0)] i (0, 0)) (C77 _ _ _ _ h510) (.cons (At.accU (by kernel_rfl) rfl (fun _ => rfl)) (.nil _)) (.fl (.cons (Rn.any _ _ _ _ _ _ (nl rfl) rfl rfl (by decide)) .nil)) (.flat (by kernel_rfl)) newflat_nil)
    exact PureSim.ak (C73 _ _ _ h512)
   refine TS.drawT [⟨55, [iv o402.1], (H65_2 p0 p1 v445 o402 m411 o406 r505), ag [iv r507.1, iv r507.2], []⟩, ⟨77, [ag [iv r505.1, iv r505.2], sv 15 1 1], (H65_1 p0 p1 v445 o402 m411 o406 r505 r507), ag [iv r509.1, iv r509.2], []⟩, ⟨73, [ag [iv r509.1, iv r509.2]], (H65_1 p0 p1 v445 o402 m411 o406 r505 r507), ag [iv r511.1, iv r511.2], []⟩] hT mixed 9 [] (S65_9 r413 r415 r417 r419 v468 v445 r505 o402 r507 r509 r511) (H65_0 p0 p1 v445 o402 m411 o406 r505 r507 r511) ?_ ?_
   · exact QJ.rn (qs (st 77 [(4, pt 2 0), (5, pt 3 0), (6, pt 4 0), (7, pt 11 0), (8, pt 12 0), (9, iv (mn r413 r415)), (10, iv (mx r417 r419)), (11, iv v468), (12, pt 14 0), (64, accV 13 v445.length), (65, ag [iv r505.1, iv r505.2]), (66, pt 11 0), (67, iv o402.1)]) (H65_2 p0 p1 v445 o402 m411 o406 r505) [] []) 4 (QJ.o { val := ag [iv r507.1, iv r507.2], new := [] } (qOf_call (g := 55) (args := [iv o402.1]) (by kernel_rfl) lookC_hit) (QJ.rn (qs (st 77 [(4, pt 2 0), (5, pt 3 0), (6, pt 4 0), (7, pt 11 0), (8, pt 12 0), (9, iv (mn r413 r415)), (10, iv (mx r417 r419)), (11, iv v468), (12, pt 14 0), (64, accV 13 v445.length), (65, ag [iv r505.1, iv r505.2]), (66, pt 11 0), (67, iv o402.1), (68, ag [iv r507.1, iv r507.2]), (69, sv 15 1 1)]) (H65_1 p0 p1 v445 o402 m411 o406 r505 r507) [(5, 15, 16)] []) 1 (QJ.o { val := ag [iv r509.1, iv r509.2], new := [] } (qOf_call (g := 77) (args := [ag [iv r505.1, iv r505.2], sv 15 1 1]) (by kernel_rfl) (lookC_skip (fun hg => absurd (show (55 : Nat) = 77 from hg) (by decide)) lookC_hit)) (QJ.o { val := ag [iv r511.1, iv r511.2], new := [] } (qOf_call (g := 73) (args := [ag [iv r509.1, iv r509.2]]) (by kernel_rfl) (lookC_skip (fun hg => absurd (show (55 : Nat) = 73 from hg) (by decide)) (lookC_skip (fun hg => absurd (show (77 : Nat) = 73 from hg) (by decide)) lookC_hit))) (QJ.rn (qs (S65_9 r413 r415 r417 r419 v468 v445 r505 o402 r507 r509 r511) (H65_0 p0 p1 v445 o402 m411 o406 r505 r507 r511) [(8, 16, 17), (5, 15, 16)] []) 1 (QJ.dn ⟨by kernel_rfl, by kernel_rfl, by kernel_rfl⟩))))))
   refine TI.rn 0 [4, 5, 6, 7, 8, 9, 10, 11, 64, 72] [0, 1, 2, 3, 4, 5, 6, 7, 11, 12, 13, 16] (st 77 [(4, pt 2 0), (5, pt 3 0), (6, pt 4 0), (7, pt 11 0), (8, pt 12 0), (9, iv (mn r413 r415)), (10, iv (mx r417 r419)), (11, iv v468), (64, accV 13 v445.length), (72, sv 16 1 1)]) [ab 55 e55 p0, cl 3 [iv p1], cl 111 [.slice none 0 0], cl 4 [.bool false], cl 111 [accV 13 v445.length], cl 23 [sl 0 p0], .mark, .loop (S65_18).tmps [15, 16] c65.s2.s2.s1.s2.bd.ras c65.s2.s2.s1.s2.bd.rbd .busy none, .dead, .dead, .dead, cl 55 [iv o402.1, iv o402.2], cl 55 [iv m411, iv o406.2], ab 101 e101 v445, .dead, .dead, cl 101 [iv r511.1, iv r511.2]] (TI.acc (l := v445) (b := 13) (ts := #[111, 111]) (e := 101) (bytes := 16) (z := ag [iv 0, iv 0]) (y := sv 16 1 1) (ys := [(r511.1, r511.2)]) (xs := List.flatMap e101 ([(r511.1, r511.2)])) (m := 1) (s := 2) (enc := e101) (by kernel_rfl) (by kernel_rfl) (by decide) (by kernel_rfl) (by kernel_rfl) (by kernel_rfl) (by kernel_rfl) (by kernel_rfl) (by kernel_rfl) (by kernel_rfl) (by kernel_rfl) (fun _ => rfl) rfl rfl (by omega) [4, 5, 6, 7, 8, 9, 10, 11, 73] [0, 1, 2, 3, 4, 5, 6, 7, 11, 12, 17] (a2 := (st 77 [(4, pt 2 0), (5, pt 3 0), (6, pt 4 0), (7, pt 11 0), (8, pt 12 0), (9, iv (mn r413 r415)), (10, iv (mx r417 r419)), (11, iv v468), (73, sv 17 (List.length (v445 ++ [(r511.1, r511.2)])) UNK)])) (h2 := [ab 55 e55 p0, cl 3 [iv p1], cl 111 [.slice none 0 0], cl 4 [.bool false], cl 111 [accV 13 v445.length], cl 23 [sl 0 p0], .mark, .loop (S65_18).tmps [15, 16] c65.s2.s2.s1.s2.bd.ras c65.s2.s2.s1.s2.bd.rbd .busy none, .dead, .dead, .dead, cl 55 [iv o402.1, iv o402.2], cl 55 [iv m411, iv o406.2], .dead, .dead, .dead, .dead, lb101 (v445 ++ [(r511.1, r511.2)])]) (by kernel_rfl) (TI.rn 1 [4, 5, 6, 7, 8, 9, 10, 11] [0, 1, 2, 3, 4, 5, 6, 7, 11, 12, 17] (S65_17 r413 r415 r417 r419 v468) [ab 55 e55 p0, cl 3 [iv p1], cl 111 [.slice none 0 0], cl 4 [.bool false], cl 111 [sv 17 (List.length (v445 ++ [(r511.1, r511.2)])) UNK], cl 23 [sl 0 p0], .mark, .loop (S65_18).tmps [15, 16] c65.s2.s2.s1.s2.bd.ras c65.s2.s2.s1.s2.bd.rbd .busy none, .dead, .dead, .dead, cl 55 [iv o402.1, iv o402.2], cl 55 [iv m411, iv o406.2], .dead, .dead, .dead, .dead, lb101 (v445 ++ [(r511.1, r511.2)])] (TI.dn (NX.bk (NX.sq (TS.rg (TI.ra 3 [4, 5, 6, 7, 8, 9, 10, 11] (S65_14 r413 r415 r417 r419 v468) (TI.dn ?_))))))))
   exact Rd.again (a2 := (S65_14 r413 r415 r417 r419 v468)) (h2 := [ab 55 e55 p0, cl 3 [iv p1], cl 111 [.slice none 0 0], cl 4 [.bool false], cl 111 [accV 13 (List.length (v445 ++ [(r511.1, r511.2)]))], cl 23 [sl 0 p0], .mark, .loop (S65_18).tmps [15, 16] c65.s2.s2.s1.s2.bd.ras c65.s2.s2.s1.s2.bd.rbd .busy none, .dead, .dead, .dead, cl 55 [iv o402.1, iv o402.2], cl 55 [iv m411, iv o406.2], accB 101 (List.length (v445 ++ [(r511.1, r511.2)])) (List.flatMap e101 (v445 ++ [(r511.1, r511.2)]))]) (Wk.an [11, 12, 17] (.ac (.lt (.fl .nil) (.lt (.fl .nil) (.lt (.fl .nil) (.lt (.cons (Rn.accU (nl rfl) rfl (by simp)) .nil) (.lt (.sl .nil) (.cons (At.blk (by kernel_rfl) RnB.mark) (.cons (At.blk (b1 := .loop (S65_18).tmps [15, 16] c65.s2.s2.s1.s2.bd.ras c65.s2.s2.s1.s2.bd.rbd .busy none) (by kernel_rfl) (RnB.loop _ _ _ _ _ _ _ (LRn.stx [3, 4, 5, 6, 14] [pt 1 0, pt 2 0, pt 3 0, pt 4 0, .func (.func 98) ⟨[]⟩ ⟨[pt 5 0]⟩] [pt 1 0, pt 2 0, pt 3 0, pt 4 0, .func (.func 98) ⟨[]⟩ ⟨[pt 5 0]⟩] (.pp (.pp (.pp (.pp (.cons (Rn.func' .nil (.pp .nil)) .nil))))) (by kernel_rfl) (by kernel_rfl) rfl))) (.cons (.inl rfl) (.cons (.inl rfl) (.cons (.inl rfl) (.lt (.fl (.fl .nil)) (.lt (.fl (.fl .nil)) (.cons (At.accU (by kernel_rfl) rfl (fun _ => rfl)) (.nil _))))))))))))))) [pt 2 0, pt 3 0, pt 4 0, pt 11 0, pt 12 0, iv (mn r413 r415), iv (mx r417 r419), iv (w64 (v468 + 3600))] (.pp (.pp (.pp (.pp (.pp (.fl (.fl (.fl .nil))))))))) (ih (w64 (v468 + 3600)) (v445 ++ [(r511.1, r511.2)]) _ hF)
 replace hF := of_neg hF hc493
 refine TS.ex 2 (NX.sqX ?_)
 have hF := sj hF
 subst hF
 exact Rd.out (e := .exit 2) (by intro h; cases h) (And.intro rfl (Wk.an [13] (.ac (.lt (.fl .nil) (.lt (.fl .nil) (.lt (.fl .nil) (.lt (.cons (Rn.acc (nl rfl) rfl) .nil) (.lt (.sl .nil) (.cons (At.blk (by kernel_rfl) RnB.mark) (.cons (At.blk (b1 := .loop (S65_18).tmps [15, 16] c65.s2.s2.s1.s2.bd.ras c65.s2.s2.s1.s2.bd.rbd .busy none) (by kernel_rfl) (RnB.loop _ _ _ _ _ _ _ (LRn.stx [3, 4, 5, 6, 14] [pt 1 0, pt 2 0, pt 3 0, pt 4 0, .func (.func 98) ⟨[]⟩ ⟨[pt 5 0]⟩] [pt 1 0, pt 2 0, pt 3 0, pt 4 0, .func (.func 98) ⟨[]⟩ ⟨[pt 5 0]⟩] (.pp (.pp (.pp (.pp (.cons (Rn.func' .nil (.pp .nil)) .nil))))) (by kernel_rfl) (by kernel_rfl) rfl))) (.cons (.inl rfl) (.cons (.inl rfl) (.cons (.inl rfl) (.ac (.nil _))))))))))))) [] .nil))
def P65l0 (p0 : List I2) (p1 : Int) (r : (List I2) ⊕ (List I2)) : Post := fun e a h => (match r with | .inl q0 => e = .ret ∧ Wk Pg 1 8 a h (st 36 []) [ab 55 e55 p0, cl 3 [iv p1], cl 111 [.slice none 0 0], cl 4 [.bool false], cl 111 [accV 8 q0.length], cl 23 [sl 0 p0], .mark, .loop (S65_18).tmps [15, 16] c65.s2.s2.s1.s2.bd.ras c65.s2.s2.s1.s2.bd.rbd .done (some .ret), ab 101 e101 q0] | .inr q0 => e = .exit 0 ∧ Wk Pg 1 8 a h (st 36 []) [ab 55 e55 p0, cl 3 [iv p1], cl 111 [.slice none 0 0], cl 4 [.bool false], cl 111 [accV 8 q0.length], cl 23 [sl 0 p0], .mark, .loop (S65_18).tmps [15, 16] c65.s2.s2.s1.s2.bd.ras c65.s2.s2.s1.s2.bd.rbd .ready none, ab 101 e101 q0])
theorem L65l0 (p0 : List I2) (p1 v172 : Int) (v173 : List I2) (r : (List I2) ⊕ (List I2)) (hF : F65l0 p0 p1 v172 v173 = some r) : TL Pg 1 8 c65f98.s2.bd.bd (S65_15 p0 v172) (H65_8 p0 p1 v173) (P65l0 p0 p1 r) := by
 refine F65l0.partial_correctness p0 p1 (motive := fun v172 v173 r => TL Pg 1 8 c65f98.s2.bd.bd (S65_15 p0 v172) (H65_8 p0 p1 v173) (P65l0 p0 p1 r)) ?_ v172 v173 r hF
 clear hF r v172 v173
 intro again ih v172 v173 r hF
 refine TL.round (TS.sq (TS.rg (TI.ra 1 [0, 1, 6, 7, 8, 9] (st 36 [(0, .func (.yield 7) #[] #[]), (1, pt 5 0), (6, sl 0 p0), (7, iv (p0.length : Int)), (8, iv v172), (9, .bool (decide (v172 < (p0.length : Int))))]) (TI.dq (TS.sq ?_)))))
 refine TS.cd (.tmp 9) (decide (v172 < (p0.length : Int))) (fun hc400 => ?_) (fun hc400 => ?_)
 · replace hF := of_pos hF hc400
   refine TS.sk (NX.sq (TS.sq (TS.bk 1 (TS.sq ?_))))
   obtain ⟨hg401, hF⟩ := of_guard hF
   obtain ⟨o402, h403, hF⟩ := of_do hF
   replace h403 := sj h403
   refine TS.rg (TI.ra 1 [0, 1, 6, 7, 8, 10] (st 36 [(0, .func (.yield 7) #[] #[]), (1, pt 5 0), (6, sl 0 p0), (7, iv (p0.length : Int)), (8, iv v172), (10, iv v172)]) (TI.o { val := pt 0 (0 + v172.toNat * 2) } (q_ixS 0 0 (v172.toNat * 2) (by kernel_rfl) hg401) [0, 1, 6, 7, 8, 10, 11] [0, 1, 2, 3, 4, 5, 6, 7, 8] (st 36 [(0, .func (.yield 7) #[] #[]), (1, pt 5 0), (6, sl 0 p0), (7, iv (p0.length : Int)), (8, iv v172), (10, iv v172), (11, pt 0 (0 + v172.toNat * 2))]) (H65_8 p0 p1 v173) (TI.o { val := ag [iv o402.1, iv o402.2] } (q_nAa Pg (H65_8 p0 p1 v173) 55 0 (0 + v172.toNat * 2) p0 e55 2 55 v172.toNat (0, 0) h403) [0, 1, 6, 7, 8, 10, 12] [0, 1, 2, 3, 4, 5, 6, 7, 8] (st 36 [(0, .func (.yield 7) #[] #[]), (1, pt 5 0), (6, sl 0 p0), (7, iv (p0.length : Int)), (8, iv v172), (10, iv v172), (12, ag [iv o402.1, iv o402.2])]) (H65_8 p0 p1 v173) (TI.rn 3 [0, 1, 3, 4, 6, 7, 8] [0, 1, 2, 3, 4, 5, 6, 7, 8, 9] (st 36 [(0, .func (.yield 7) #[] #[]), (1, pt 5 0), (3, iv v172), (4, pt 9 0), (6, sl 0 p0), (7, iv (p0.length : Int)), (8, iv v172)]) (H65_5 p0 p1 v173 o402) (TI.dq (TS.sq ?_))))))
   obtain ⟨hg404, hF⟩ := of_guardn hF
   obtain ⟨hg405, hF⟩ := of_guard hF
   obtain ⟨o406, h407, hF⟩ := of_do hF
   replace h407 := sj h407
   refine TS.dp [] (fun e he => by cases he) mixed 9 [0, 1, 3, 4, 5, 6, 7, 8] [0, 1, 2, 3, 4, 5, 6, 7, 8, 9, 10] (st 36 [(0, .func (.yield 7) #[] #[]), (1, pt 5 0), (3, iv v172), (4, pt 9 0), (5, pt 10 0), (6, sl 0 p0), (7, iv (p0.length : Int)), (8, iv v172)]) [ab 55 e55 p0, cl 3 [iv p1], cl 111 [.slice none 0 0], cl 4 [.bool false], cl 111 [accV 8 v173.length], cl 23 [sl 0 p0], .mark, .loop (S65_18).tmps [15, 16] c65.s2.s2.s1.s2.bd.ras c65.s2.s2.s1.s2.bd.rbd .ready none, ab 101 e101 v173, cl 55 [iv o402.1, iv o402.2], cl 55 [iv o406.1, iv o406.2]] ?_ ?_
   · exact QJ.rn (qs (st 36 [(0, .func (.yield 7) #[] #[]), (1, pt 5 0), (3, iv v172), (4, pt 9 0), (6, sl 0 p0), (7, iv (p0.length : Int)), (8, iv v172), (13, sl 0 p0), (14, iv v172), (15, iv (w64 (v172 + 1))), (16, sl 0 p0), (17, iv (p0.length : Int))]) (H65_5 p0 p1 v173 o402) [] []) 5 (QJ.o { val := iv (Int.tmod (w64 (v172 + 1)) (p0.length : Int)) } (q_int (P := Pg) (op := .rem) (ty := 3) (ox := (.tmp 15)) (oy := (.tmp 17)) (k := .i64) (k' := .i64) (y := w64 (v172 + 1)) (z := (p0.length : Int)) (by kernel_rfl) (rem_ok hg404)) (QJ.o { val := pt 0 (0 + (Int.tmod (w64 (v172 + 1)) (p0.length : Int)).toNat * 2) } (q_ixS 0 0 ((Int.tmod (w64 (v172 + 1)) (p0.length : Int)).toNat * 2) (by kernel_rfl) hg405) (QJ.o { val := ag [iv o406.1, iv o406.2] } (q_nAa Pg (H65_5 p0 p1 v173 o402) 55 0 (0 + (Int.tmod (w64 (v172 + 1)) (p0.length : Int)).toNat * 2) p0 e55 2 55 (Int.tmod (w64 (v172 + 1)) (p0.length : Int)).toNat (0, 0) h407) (QJ.rn (qs (st 36 [(0, .func (.yield 7) #[] #[]), (1, pt 5 0), (3, iv v172), (4, pt 9 0), (5, pt 10 0), (6, sl 0 p0), (7, iv (p0.length : Int)), (8, iv v172), (13, sl 0 p0), (14, iv v172), (15, iv (w64 (v172 + 1))), (16, sl 0 p0), (17, iv (p0.length : Int)), (18, iv (Int.tmod (w64 (v172 + 1)) (p0.length : Int))), (19, pt 0 (0 + (Int.tmod (w64 (v172 + 1)) (p0.length : Int)).toNat * 2)), (20, ag [iv o406.1, iv o406.2])]) [ab 55 e55 p0, cl 3 [iv p1], cl 111 [.slice none 0 0], cl 4 [.bool false], cl 111 [accV 8 v173.length], cl 23 [sl 0 p0], .mark, .loop (S65_18).tmps [15, 16] c65.s2.s2.s1.s2.bd.ras c65.s2.s2.s1.s2.bd.rbd .ready none, ab 101 e101 v173, cl 55 [iv o402.1, iv o402.2], cl 55 [iv 0, iv 0]] [(8, 10, 11)] []) 1 (QJ.dn ⟨rfl, SJ.la⟩)))))
   refine TS.sq (TS.sq (TS.rg (TI.ra 5 [0, 1, 4, 5, 6, 7, 8, 25] (st 36 [(0, .func (.yield 7) #[] #[]), (1, pt 5 0), (4, pt 9 0), (5, pt 10 0), (6, sl 0 p0), (7, iv (p0.length : Int)), (8, iv v172), (25, .bool ((w64 (v172 + 1)) == (p0.length : Int)))]) (TI.dq ?_))))
   obtain ⟨m411, hm412, hF⟩ := of_do hF
   have hK : NX Pg 1 8 [.sq c65f98.s2.bd.bd.s2.s2.s1.bd.s2.s2.s2, .bk 1, .sq c65f98.s2.bd.bd.s2.s2.s2] (Rd Pg 1 8 c65f98.s2.bd.bd (P65l0 p0 p1 r)) .normal (S65_12 p0 v172) [ab 55 e55 p0, cl 3 [iv p1], cl 111 [.slice none 0 0], cl 4 [.bool false], cl 111 [accV 8 v173.length], cl 23 [sl 0 p0], .mark, .loop (S65_18).tmps [15, 16] c65.s2.s2.s1.s2.bd.ras c65.s2.s2.s1.s2.bd.rbd .ready none, ab 101 e101 v173, cl 55 [iv o402.1, iv o402.2], cl 55 [iv m411, iv o406.2]] := by
    refine NX.sq (TS.sq (TS.rg (TI.rn 3 [0, 1, 6, 7, 8, 30, 31, 32] [0, 1, 2, 3, 4, 5, 6, 7, 8] (st 36 [(0, .func (.yield 7) #[] #[]), (1, pt 5 0), (6, sl 0 p0), (7, iv (p0.length : Int)), (8, iv v172), (30, .func (.yield 7) #[] #[]), (31, ag [iv o402.1, iv o402.2]), (32, ag [iv m411, iv o406.2])]) [ab 55 e55 p0, cl 3 [iv p1], cl 111 [.slice none 0 0], cl 4 [.bool false], cl 111 [accV 8 v173.length], cl 23 [sl 0 p0], .mark, .loop (S65_18).tmps [15, 16] c65.s2.s2.s1.s2.bd.ras c65.s2.s2.s1.s2.bd.rbd .ready none, ab 101 e101 v173, .dead, .dead] (TI.yield (l := 7) (n := 11) (args := [ag [iv o402.1, iv o402.2], ag [iv m411, iv o406.2]]) (t := (S65_18).tmps) (p := [15, 16]) («as» := c65.s2.s2.s1.s2.bd.ras) (bd := c65.s2.s2.s1.s2.bd.rbd) (a2 := (st 77 [(3, pt 1 0), (4, pt 2 0), (5, pt 3 0), (6, pt 4 0), (14, .func (.func 98) ⟨[]⟩ ⟨[pt 5 0]⟩), (15, ag [iv o402.1, iv o402.2]), (16, ag [iv m411, iv o406.2])])) (by kernel_rfl) (by kernel_rfl) (by decide) rfl (by kernel_rfl) (by kernel_rfl) (TS.sq (TS.rg (TI.rn 2 [3, 4, 5, 6, 7, 16] [0, 1, 2, 3, 4, 5, 6, 7, 8, 11] (st 77 [(3, pt 1 0), (4, pt 2 0), (5, pt 3 0), (6, pt 4 0), (7, pt 11 0), (16, ag [iv m411, iv o406.2])]) [ab 55 e55 p0, cl 3 [iv p1], cl 111 [.slice none 0 0], cl 4 [.bool false], cl 111 [accV 8 v173.length], cl 23 [sl 0 p0], .mark, .loop (S65_18).tmps [15, 16] c65.s2.s2.s1.s2.bd.ras c65.s2.s2.s1.s2.bd.rbd .ready none, ab 101 e101 v173, .dead, .dead, cl 55 [iv o402.1, iv o402.2]] (TI.dn ?_))))))))
    refine NX.sq (TS.rg (TI.rn 2 [3, 4, 5, 6, 7, 8] [0, 1, 2, 3, 4, 5, 6, 7, 8, 11, 12] (st 77 [(3, pt 1 0), (4, pt 2 0), (5, pt 3 0), (6, pt 4 0), (7, pt 11 0), (8, pt 12 0)]) [ab 55 e55 p0, cl 3 [iv p1], cl 111 [.slice none 0 0], cl 4 [.bool false], cl 111 [accV 8 v173.length], cl 23 [sl 0 p0], .mark, .loop (S65_18).tmps [15, 16] c65.s2.s2.s1.s2.bd.ras c65.s2.s2.s1.s2.bd.rbd .ready none, ab 101 e101 v173, .dead, .dead, cl 55 [iv o402.1, iv o402.2], cl 55 [iv m411, iv o406.2]] (TI.dn ?_)))
    refine ⟨rfl, (S65_18).tmps, [15, 16], c65.s2.s2.s1.s2.bd.ras, c65.s2.s2.s1.s2.bd.rbd, by kernel_rfl, (TS.bk 1 (TS.sq ?_))⟩
    obtain ⟨r413, h414, hF⟩ := of_do hF
    obtain ⟨r415, h416, hF⟩ := of_do hF
    obtain ⟨r417, h418, hF⟩ := of_do hF
    obtain ⟨r419, h420, hF⟩ := of_do hF
    have hT : ∀ e ∈ ([⟨72, [ag [iv o402.1, iv o402.2]], (H65_4 p0 p1 v173 o402 m411 o406), iv r413, []⟩, ⟨72, [ag [iv m411, iv o406.2]], (H65_4 p0 p1 v173 o402 m411 o406), iv r415, []⟩, ⟨72, [ag [iv o402.1, iv o402.2]], (H65_4 p0 p1 v173 o402 m411 o406), iv r417, []⟩, ⟨72, [ag [iv m411, iv o406.2]], (H65_4 p0 p1 v173 o402 m411 o406), iv r419, []⟩] : List Entry), PureSim Pg e.g e.args e.h e.v e.new := by
     intro e he
     simp only [List.mem_cons, List.not_mem_nil, or_false] at he
     rcases he with rfl | rfl | rfl | rfl
     · exact PureSim.ak (C72 _ _ _ h414)
     · exact PureSim.ak (C72 _ _ _ h416)
     · exact PureSim.ak (C72 _ _ _ h418)
     exact PureSim.ak (C72 _ _ _ h420)
    refine TS.dp [⟨72, [ag [iv o402.1, iv o402.2]], (H65_4 p0 p1 v173 o402 m411 o406), iv r413, []⟩, ⟨72, [ag [iv m411, iv o406.2]], (H65_4 p0 p1 v173 o402 m411 o406), iv r415, []⟩, ⟨72, [ag [iv o402.1, iv o402.2]], (H65_4 p0 p1 v173 o402 m411 o406), iv r417, []⟩, ⟨72, [ag [iv m411, iv o406.2]], (H65_4 p0 p1 v173 o402 m411 o406), iv r419, []⟩] hT mixed 11 [3, 4, 5, 6, 7, 8, 9, 10] [0, 1, 2, 3, 4, 5, 6, 7, 8, 11, 12] (st 77 [(3, pt 1 0), (4, pt 2 0), (5, pt 3 0), (6, pt 4 0), (7, pt 11 0), (8, pt 12 0), (9, iv (mn r413 r415)), (10, iv (mx r417 r419))]) (H65_4 p0 p1 v173 o402 m411 o406) ?_ ?_
    · refine QJ.rn (qs (st 77 [(3, pt 1 0), (4, pt 2 0), (5, pt 3 0), (6, pt 4 0), (7, pt 11 0), (8, pt 12 0), (17, ag [iv o402.1, iv o402.2])]) (H65_4 p0 p1 v173 o402 m411 o406) [] []) 1 (QJ.o { val := iv r413, new := [] } (qOf_call (g := 72) (args := [ag [iv o402.1, iv o402.2]]) (by kernel_rfl) lookC_hit) (QJ.rn (qs (st 77 [(3, pt 1 0), (4, pt 2 0), (5, pt 3 0), (6, pt 4 0), (7, pt 11 0), (8, pt 12 0), (17, ag [iv o402.1, iv o402.2]), (18, iv r413), (19, ag [iv m411, iv o406.2])]) (H65_4 p0 p1 v173 o402 m411 o406) [] []) 1 ?_))
      refine QJ.o { val := iv r415, new := [] } (qOf_call (g := 72) (args := [ag [iv m411, iv o406.2]]) (by kernel_rfl) (lookC_skip (by intro _ ha hh; first | (exact absurd (congrArg List.length hh) (Nat.ne_of_beq_eq_false rfl)) | (have hr := sj (h414.symm.trans (Eq.trans (congr (congrArg F72 (show o402.1 = m411 from congrArg (leafI 0) ha)) (show o402.2 = o406.2 from congrArg (leafI 1) ha)) h416)); first | (subst hr; rfl) | (cases hr; done) | (cases hr; rfl))) lookC_hit)) (QJ.rn (qs (st 77 [(3, pt 1 0), (4, pt 2 0), (5, pt 3 0), (6, pt 4 0), (7, pt 11 0), (8, pt 12 0), (17, ag [iv o402.1, iv o402.2]), (18, iv r413), (19, ag [iv m411, iv o406.2]), (20, iv r415), (21, iv (mn r413 r415)), (22, ag [iv o402.1, iv o402.2])]) (H65_4 p0 p1 v173 o402 m411 o406) [] []) 2 ?_)
      refine QJ.o { val := iv r417, new := [] } (qOf_call (g := 72) (args := [ag [iv o402.1, iv o402.2]]) (by kernel_rfl) (lookC_skip (by intro _ ha hh; first | (exact absurd (congrArg List.length hh) (Nat.ne_of_beq_eq_false rfl)) | (have hr := sj (h414.symm.trans (Eq.trans (congr (congrArg F72 (Eq.refl o402.1)) (Eq.refl o402.2)) h418)); first | (subst hr; rfl) | (cases hr; done) | (cases hr; rfl))) (lookC_skip (by intro _ ha hh; first | (exact absurd (congrArg List.length hh) (Nat.ne_of_beq_eq_false rfl)) | (have hr := sj (h416.symm.trans (Eq.trans (congr (congrArg F72 (show m411 = o402.1 from congrArg (leafI 0) ha)) (show o406.2 = o402.2 from congrArg (leafI 1) ha)) h418)); first | (subst hr; rfl) | (cases hr; done) | (cases hr; rfl))) lookC_hit))) (QJ.rn (qs (st 77 [(3, pt 1 0), (4, pt 2 0), (5, pt 3 0), (6, pt 4 0), (7, pt 11 0), (8, pt 12 0), (17, ag [iv o402.1, iv o402.2]), (18, iv r413), (19, ag [iv m411, iv o406.2]), (20, iv r415), (21, iv (mn r413 r415)), (22, ag [iv o402.1, iv o402.2]), (23, iv r417), (24, ag [iv m411, iv o406.2])]) (H65_4 p0 p1 v173 o402 m411 o406) [] []) 1 ?_)
      exact QJ.o { val := iv r419, new := [] } (qOf_call (g := 72) (args := [ag [iv m411, iv o406.2]]) (by kernel_rfl) (lookC_skip (by intro _ ha hh; first | (exact absurd (congrArg List.length hh) (Nat.ne_of_beq_eq_false rfl)) | (have hr := sj (h414.symm.trans (Eq.trans (congr (congrArg F72 (show o402.1 = m411 from congrArg (leafI 0) ha)) (show o402.2 = o406.2 from congrArg (leafI 1) ha)) h420)); first | (subst hr; rfl) | (cases hr; done) | (cases hr; rfl))) (lookC_skip (by intro _ ha hh; first | (exact absurd (congrArg List.length hh) (Nat.ne_of_beq_eq_false rfl)) | (have hr := sj (h416.symm.trans (Eq.trans (congr (congrArg F72 (Eq.refl m411)) (Eq.refl o406.2)) h420)); first | (subst hr; rfl) | (cases hr; done) | (cases hr; rfl))) (lookC_skip (by intro _ ha hh; first | (exact absurd (congrArg List.length hh) (Nat.ne_of_beq_eq_false rfl)) | (have hr := sj (h418.symm.trans (Eq.trans (congr (congrArg F72 (show o402.1 = m411 from congrArg (leafI 0) ha)) (show o402.2 = o406.2 from congrArg (leafI 1) ha)) h420)); first | (subst hr; rfl) | (cases hr; done) | (cases hr; rfl))) lookC_hit)))) (QJ.rn (qs (st 77 [(3, pt 1 0), (4, pt 2 0), (5, pt 3 0), (6, pt 4 0), (7, pt 11 0), (8, pt 12 0), (9, iv (mn r413 r415)), (17, ag [iv o402.1, iv o402.2]), (18, iv r413), (19, ag [iv m411, iv o406.2]), (20, iv r415), (21, iv (mn r413 r415)), (22, ag [iv o402.1, iv o402.2]), (23, iv r417), (24, ag [iv m411, iv o406.2]), (25, iv r419), (26, iv (mx r417 r419))]) (H65_4 p0 p1 v173 o402 m411 o406) [] []) 2 (QJ.dn ⟨rfl, SJ.la⟩))
    refine TS.sq ?_
    obtain ⟨o421, h422, hF⟩ := of_do hF
    replace h422 := sj h422
    refine TS.rg (TI.ra 6 [4, 5, 6, 7, 8, 9, 10, 27, 32] (st 77 [(4, pt 2 0), (5, pt 3 0), (6, pt 4 0), (7, pt 11 0), (8, pt 12 0), (9, iv (mn r413 r415)), (10, iv (mx r417 r419)), (27, iv (mn r413 r415)), (32, iv (w64 ((Int.tmod (w64 (p1 - (mn r413 r415))) 3600) + 3600)))]) (TI.o { val := iv o421 } (q_convI (e := Int.tmod (w64 ((Int.tmod (w64 (p1 - (mn r413 r415))) 3600) + 3600)) 3600) (y := o421) (by kernel_rfl) h422) [4, 5, 6, 7, 8, 9, 10, 27, 33] [0, 1, 2, 3, 4, 5, 6, 7, 8, 11, 12] (st 77 [(4, pt 2 0), (5, pt 3 0), (6, pt 4 0), (7, pt 11 0), (8, pt 12 0), (9, iv (mn r413 r415)), (10, iv (mx r417 r419)), (27, iv (mn r413 r415)), (33, iv o421)]) (H65_4 p0 p1 v173 o402 m411 o406) (TI.ra 2 [4, 5, 6, 7, 8, 9, 10, 11] (st 77 [(4, pt 2 0), (5, pt 3 0), (6, pt 4 0), (7, pt 11 0), (8, pt 12 0), (9, iv (mn r413 r415)), (10, iv (mx r417 r419)), (11, iv (w64 ((mn r413 r415) + o421)))]) (TI.dq (TS.bk 2 ?_)))))
    obtain ⟨r514, h515, hF⟩ := of_do hF
    refine TS.lp (TL.weak (a2 := (st 77 [(4, pt 2 0), (5, pt 3 0), (6, pt 4 0), (7, pt 11 0), (8, pt 12 0), (9, iv (mn r413 r415)), (10, iv (mx r417 r419)), (11, iv (w64 ((mn r413 r415) + o421)))])) (h2 := [ab 55 e55 p0, cl 3 [iv p1], cl 111 [.slice none 0 0], cl 4 [.bool false], cl 111 [accV 13 v173.length], cl 23 [sl 0 p0], .mark, .loop (S65_18).tmps [15, 16] c65.s2.s2.s1.s2.bd.ras c65.s2.s2.s1.s2.bd.rbd .busy none, .dead, .dead, .dead, cl 55 [iv o402.1, iv o402.2], cl 55 [iv m411, iv o406.2], ab 101 e101 v173]) (Wk.anD [11, 12, 8] (.ac (.lt (.fl .nil) (.lt (.fl .nil) (.lt (.fl .nil) (.lt (.cons (Rn.acc (nl rfl) rfl) .nil) (.lt (.sl .nil) (.cons (At.blk (by kernel_rfl) RnB.mark) (.cons (At.blk (b1 := .loop (S65_18).tmps [15, 16] c65.s2.s2.s1.s2.bd.ras c65.s2.s2.s1.s2.bd.rbd .busy none) (by kernel_rfl) (RnB.loop _ _ _ _ _ _ _ (LRn.stx [3, 4, 5, 6, 14] [pt 1 0, pt 2 0, pt 3 0, pt 4 0, .func (.func 98) ⟨[]⟩ ⟨[pt 5 0]⟩] [pt 1 0, pt 2 0, pt 3 0, pt 4 0, .func (.func 98) ⟨[]⟩ ⟨[pt 5 0]⟩] (.pp (.pp (.pp (.pp (.cons (Rn.func' .nil (.pp .nil)) .nil))))) (by kernel_rfl) (by kernel_rfl) rfl))) (.cons (.inl rfl) (.cons (.inl rfl) (.cons (.inl rfl) (.lt (.fl (.fl .nil)) (.lt (.fl (.fl .nil)) (.ac (.nil _))))))))))))))) [pt 2 0, pt 3 0, pt 4 0, pt 11 0, pt 12 0, iv (mn r413 r415), iv (mx r417 r419), iv (w64 ((mn r413 r415) + o421))] (.pp (.pp (.pp (.pp (.pp (.fl (.fl (.fl .nil))))))))) (TL.post (L65l1 p0 p1 m411 o402 o406 r413 r415 r417 r419 (w64 ((mn r413 r415) + o421)) v173 r514 h515) ?_))
    rintro e a1 h1 hp
    rcases r514 with o516 | o517
    · skip
      obtain ⟨rfl, hw⟩ := hp
      refine ⟨(st 77 []), [ab 55 e55 p0, cl 3 [iv p1], cl 111 [.slice none 0 0], cl 4 [.bool false], cl 111 [accV 11 o516.length], cl 23 [sl 0 p0], .mark, .loop (S65_18).tmps [15, 16] c65.s2.s2.s1.s2.bd.ras c65.s2.s2.s1.s2.bd.rbd .busy none, .dead, .dead, .dead, ab 101 e101 o516], (NX.bkR (NX.bkR ?_)), hw⟩
      refine ⟨.bool false, (H65_6 p0 p1 o516), by kernel_rfl, (TI.rn 0 [0, 1, 6, 7, 8, 33] [0, 1, 2, 3, 4, 5, 6, 7, 11] (st 36 [(0, .func (.yield 7) #[] #[]), (1, pt 5 0), (6, sl 0 p0), (7, iv (p0.length : Int)), (8, iv v172), (33, .bool false)]) (H65_6 p0 p1 o516) (TI.ra 1 [0, 1, 6, 7, 8, 34] (st 36 [(0, .func (.yield 7) #[] #[]), (1, pt 5 0), (6, sl 0 p0), (7, iv (p0.length : Int)), (8, iv v172), (34, .bool true)]) (TI.dq (TS.cdT (.tmp 34) (TS.rt (NX.bkR (NX.sqR ?_)))))))⟩
      have hF := sj hF
      subst hF
      exact Rd.out (e := .ret) (by intro h; cases h) (And.intro rfl (Wk.an [11] (.ac (.lt (.fl .nil) (.lt (.fl .nil) (.lt (.fl .nil) (.lt (.cons (Rn.acc (nl rfl) rfl) .nil) (.lt (.sl .nil) (.cons (At.blk (by kernel_rfl) RnB.mark) (.cons (At.blk (b1 := .loop (S65_18).tmps [15, 16] c65.s2.s2.s1.s2.bd.ras c65.s2.s2.s1.s2.bd.rbd .done (some .ret)) (by kernel_rfl) (RnB.loop _ _ _ _ _ _ _ (LRn.stx [3, 4, 5, 6, 14] [pt 1 0, pt 2 0, pt 3 0, pt 4 0, .func (.func 98) ⟨[]⟩ ⟨[pt 5 0]⟩] [pt 1 0, pt 2 0, pt 3 0, pt 4 0, .func (.func 98) ⟨[]⟩ ⟨[pt 5 0]⟩] (.pp (.pp (.pp (.pp (.cons (Rn.func' .nil (.pp .nil)) .nil))))) (by kernel_rfl) (by kernel_rfl) rfl))) (.ac (.nil _)))))))))) [] .nil))
    skip
    obtain ⟨rfl, hw⟩ := hp
    refine ⟨(st 77 []), [ab 55 e55 p0, cl 3 [iv p1], cl 111 [.slice none 0 0], cl 4 [.bool false], cl 111 [accV 11 o517.length], cl 23 [sl 0 p0], .mark, .loop (S65_18).tmps [15, 16] c65.s2.s2.s1.s2.bd.ras c65.s2.s2.s1.s2.bd.rbd .busy none, .dead, .dead, .dead, ab 101 e101 o517], (NX.bkX (NX.bk ?_)), hw⟩
    refine ⟨.bool true, (H65_7 p0 p1 o517), by kernel_rfl, (TI.rn 0 [0, 1, 6, 7, 8, 33] [0, 1, 2, 3, 4, 5, 6, 7, 11] (st 36 [(0, .func (.yield 7) #[] #[]), (1, pt 5 0), (6, sl 0 p0), (7, iv (p0.length : Int)), (8, iv v172), (33, .bool true)]) (H65_7 p0 p1 o517) (TI.ra 1 [0, 1, 6, 7, 8, 34] (st 36 [(0, .func (.yield 7) #[] #[]), (1, pt 5 0), (6, sl 0 p0), (7, iv (p0.length : Int)), (8, iv v172), (34, .bool false)]) (TI.dq (TS.cdF (.tmp 34) (TS.sk (NX.bk (NX.sq ?_)))))))⟩
    refine TS.rg (TI.ra 2 [0, 1, 6, 7, 8] (S65_13 p0 v172) (TI.dn ?_))
    exact Rd.again (a2 := (S65_13 p0 v172)) (h2 := [ab 55 e55 p0, cl 3 [iv p1], cl 111 [.slice none 0 0], cl 4 [.bool false], cl 111 [accV 8 o517.length], cl 23 [sl 0 p0], .mark, .loop (S65_18).tmps [15, 16] c65.s2.s2.s1.s2.bd.ras c65.s2.s2.s1.s2.bd.rbd .ready none, ab 101 e101 o517]) (Wk.an [11] (.ac (.lt (.fl .nil) (.lt (.fl .nil) (.lt (.fl .nil) (.lt (.cons (Rn.acc (nl rfl) rfl) .nil) (.lt (.sl .nil) (.cons (At.blk (by kernel_rfl) RnB.mark) (.cons (At.blk (b1 := .loop (S65_18).tmps [15, 16] c65.s2.s2.s1.s2.bd.ras c65.s2.s2.s1.s2.bd.rbd .ready none) (by kernel_rfl) (RnB.loop _ _ _ _ _ _ _ (LRn.stx [3, 4, 5, 6, 14] [pt 1 0, pt 2 0, pt 3 0, pt 4 0, .func (.func 98) ⟨[]⟩ ⟨[pt 5 0]⟩] [pt 1 0, pt 2 0, pt 3 0, pt 4 0, .func (.func 98) ⟨[]⟩ ⟨[pt 5 0]⟩] (.pp (.pp (.pp (.pp (.cons (Rn.func' .nil (.pp .nil)) .nil))))) (by kernel_rfl) (by kernel_rfl) rfl))) (.ac (.nil _)))))))))) [.func (.yield 7) #[] #[], pt 5 0, sl 0 p0, iv (p0.length : Int), iv (w64 (v172 + 1))] (.cons (Rn.yield _ (nl rfl)) (.pp (.sl (.fl (.fl .nil)))))) (ih (w64 (v172 + 1)) o517 _ hF)
   clear hF
   have hF := hm412
   clear hm412
   refine TS.start ?_
   refine TS.cd (.tmp 25) ((w64 (v172 + 1)) == (p0.length : Int)) (fun hc518 => ?_) (fun hc518 => ?_)
   · replace hF := of_pos hF hc518
     refine TS.rg (TI.rn 5 [0, 1, 4, 5, 6, 7, 8] [0, 1, 2, 3, 4, 5, 6, 7, 8, 9, 10] (S65_12 p0 v172) [ab 55 e55 p0, cl 3 [iv p1], cl 111 [.slice none 0 0], cl 4 [.bool false], cl 111 [accV 8 v173.length], cl 23 [sl 0 p0], .mark, .loop (S65_18).tmps [15, 16] c65.s2.s2.s1.s2.bd.ras c65.s2.s2.s1.s2.bd.rbd .ready none, ab 101 e101 v173, cl 55 [iv o402.1, iv o402.2], cl 55 [iv (w64 (o406.1 + 3600)), iv o406.2]] (TI.dn ?_))
     have hF := sj hF
     subst hF
     exact TS.weak (by exact (Wk.an [8, 9, 10] (.ac (.lt (.fl .nil) (.lt (.fl .nil) (.lt (.fl .nil) (.lt (.cons (Rn.acc (nl rfl) rfl) .nil) (.lt (.sl .nil) (.cons (At.blk (by kernel_rfl) RnB.mark) (.cons (At.blk (b1 := .loop (S65_18).tmps [15, 16] c65.s2.s2.s1.s2.bd.ras c65.s2.s2.s1.s2.bd.rbd .ready none) (by kernel_rfl) (RnB.loop _ _ _ _ _ _ _ (LRn.stx [3, 4, 5, 6, 14] [pt 1 0, pt 2 0, pt 3 0, pt 4 0, .func (.func 98) ⟨[]⟩ ⟨[pt 5 0]⟩] [pt 1 0, pt 2 0, pt 3 0, pt 4 0, .func (.func 98) ⟨[]⟩ ⟨[pt 5 0]⟩] (.pp (.pp (.pp (.pp (.cons (Rn.func' .nil (.pp .nil)) .nil))))) (by kernel_rfl) (by kernel_rfl) rfl))) (.ac (.lt (.fl (.fl .nil)) (.lt (.fl (.fl .nil)) (.nil _)))))))))))) [.func (.yield 7) #[] #[], pt 5 0, pt 9 0, pt 10 0, sl 0 p0, iv (p0.length : Int), iv v172] (.cons (Rn.yield _ (nl rfl)) (.pp (.pp (.pp (.sl (.fl (.fl .nil))))))))) hK
   replace hF := of_neg hF hc518
   refine TS.sk ?_
   have hF := sj hF
   subst hF
   exact TS.weak (by exact (Wk.an [8, 9, 10] (.ac (.lt (.fl .nil) (.lt (.fl .nil) (.lt (.fl .nil) (.lt (.cons (Rn.acc (nl rfl) rfl) .nil) (.lt (.sl .nil) (.cons (At.blk (by kernel_rfl) RnB.mark) (.cons (At.blk (b1 := .loop (S65_18).tmps [15, 16] c65.s2.s2.s1.s2.bd.ras c65.s2.s2.s1.s2.bd.rbd .ready none) (by kernel_rfl) (RnB.loop _ _ _ _ _ _ _ (LRn.stx [3, 4, 5, 6, 14] [pt 1 0, pt 2 0, pt 3 0, pt 4 0, .func (.func 98) ⟨[]⟩ ⟨[pt 5 0]⟩] [pt 1 0, pt 2 0, pt 3 0, pt 4 0, .func (.func 98) ⟨[]⟩ ⟨[pt 5 0]⟩] (.pp (.pp (.pp (.pp (.cons (Rn.func' .nil (.pp .nil)) .nil))))) (by kernel_rfl) (by kernel_rfl) rfl))) (.ac (.lt (.fl (.fl .nil)) (.lt (.fl (.fl .nil)) (.nil _)))))))))))) [.func (.yield 7) #[] #[], pt 5 0, pt 9 0, pt 10 0, sl 0 p0, iv (p0.length : Int), iv v172] (.cons (Rn.yield _ (nl rfl)) (.pp (.pp (.pp (.sl (.fl (.fl .nil))))))))) hK
 replace hF := of_neg hF hc400
 refine TS.ex 0 (NX.sqX ?_)
 have hF := sj hF
 subst hF
 exact Rd.out (e := .exit 0) (by intro h; cases h) (And.intro rfl (Wk.an [8] (.ac (.lt (.fl .nil) (.lt (.fl .nil) (.lt (.fl .nil) (.lt (.cons (Rn.acc (nl rfl) rfl) .nil) (.lt (.sl .nil) (.cons (At.blk (by kernel_rfl) RnB.mark) (.cons (At.blk (b1 := .loop (S65_18).tmps [15, 16] c65.s2.s2.s1.s2.bd.ras c65.s2.s2.s1.s2.bd.rbd .ready none) (by kernel_rfl) (RnB.loop _ _ _ _ _ _ _ (LRn.stx [3, 4, 5, 6, 14] [pt 1 0, pt 2 0, pt 3 0, pt 4 0, .func (.func 98) ⟨[]⟩ ⟨[pt 5 0]⟩] [pt 1 0, pt 2 0, pt 3 0, pt 4 0, .func (.func 98) ⟨[]⟩ ⟨[pt 5 0]⟩] (.pp (.pp (.pp (.pp (.cons (Rn.func' .nil (.pp .nil)) .nil))))) (by kernel_rfl) (by kernel_rfl) rfl))) (.ac (.nil _)))))))))) [] .nil))
theorem B65 (p0 : List I2) (p1 : Int) (r : (List I2) × Bool) (hF : F65 p0 p1 = some r) : TS0 Pg 1 1 c65 (st 77 [(0, sl 0 p0), (1, iv p1)]) [ab 55 e55 p0] (NX0 Pg 1 1 [] (FinM Pg Try.f65 1 (V65 1 r) (N65 1 r))) := by
 unfold F65 at hF
 refine TS0.sqP (by kernel_rfl) (TS0.piece (TS.rg (TI.rn 3 [0, 3, 4, 5] [0, 1, 2, 3] (st 77 [(0, sl 0 p0), (3, pt 1 0), (4, pt 2 0), (5, pt 3 0)]) [ab 55 e55 p0, cl 3 [iv p1], cl 111 [.slice none 0 0], cl 4 [.bool false]] (TI.dn (NX.z (NX0.sq (TS0.sqP (by kernel_rfl) (TS0.piece ?_))))))))
 refine TS.rg (TI.rn 1 [0, 3, 4, 5, 6] [0, 1, 2, 3, 4] (st 77 [(0, sl 0 p0), (3, pt 1 0), (4, pt 2 0), (5, pt 3 0), (6, pt 4 0)]) [ab 55 e55 p0, cl 3 [iv p1], cl 111 [.slice none 0 0], cl 4 [.bool false], cl 111 [.slice none 0 0]] (TI.dn (NX.z (NX0.sq (TS0.sqP (by kernel_rfl) (TS0.sqP (by kernel_rfl) (TS0.piece (TS.rg ?_))))))))
 refine TI.ra 1 [3, 4, 5, 6, 13] (st 77 [(3, pt 1 0), (4, pt 2 0), (5, pt 3 0), (6, pt 4 0), (13, sl 0 p0)]) (TI.inline (g := 88) (args := [sl 0 p0]) (fn := Try.f88) (c := c65f88) (n := 5) (by kernel_rfl) (by kernel_rfl) (by kernel_rfl) (by kernel_rfl) (by kernel_rfl) [0] (a2 := (st 4 [(0, sl 0 p0)])) (by kernel_rfl) (TS.sq (TS.rg (TI.rn 2 [1] [0, 1, 2, 3, 4, 5] (st 4 [(1, pt 5 0)]) (H65_11 p0 p1) (TI.dq (TS.sq (TS.rg ?_)))))))
 refine TI.ra 2 [2] (st 4 [(2, .func (.func 98) ⟨[]⟩ ⟨[pt 5 0]⟩)]) (TI.dq (TS.rt ?_))
 refine ⟨.inr rfl, rfl, .func (.func 98) ⟨[]⟩ ⟨[pt 5 0]⟩, .func (.func 98) ⟨[]⟩ ⟨[pt 5 0]⟩, (H65_11 p0 p1), by kernel_rfl, WkV.refl, (TI.rn 0 [3, 4, 5, 6, 14] [0, 1, 2, 3, 4, 5] (S65_18) (H65_11 p0 p1) (TI.dn (NX.z (NX0.sq (TS0.bkP (id := 0) (by kernel_rfl) (TS0.rgP (g := (.tmp 14)) (ps := #[15, 16]) (f := 98) (first := #[]) (captured := #[pt 5 0]) (fn := Try.f98) (ci := c65f98) (n := 6) (by kernel_rfl) (by kernel_rfl) (by kernel_rfl) (by kernel_rfl) (by kernel_rfl) (by kernel_rfl) [0, 1] (a2 := (st 36 [(0, .func (.yield 7) #[] #[]), (1, pt 5 0)])) (h2 := [ab 55 e55 p0, cl 3 [iv p1], cl 111 [.slice none 0 0], cl 4 [.bool false], cl 111 [.slice none 0 0], cl 23 [sl 0 p0], .mark, .loop (S65_18).tmps [15, 16] c65.s2.s2.s1.s2.bd.ras c65.s2.s2.s1.s2.bd.rbd .ready none]) (by kernel_rfl) (by kernel_rfl) (TS.sq (TS.rg ?_))))))))⟩
 refine TI.ra 3 [0, 1, 6, 7, 8] (S65_16 p0) (TI.dq (TS.bk 0 ?_))
 obtain ⟨r519, h520, hF⟩ := of_do hF
 refine TS.lp (TL.weak (a2 := (S65_16 p0)) (h2 := [ab 55 e55 p0, cl 3 [iv p1], cl 111 [.slice none 0 0], cl 4 [.bool false], cl 111 [accV 8 (List.length ([]))], cl 23 [sl 0 p0], .mark, .loop (S65_18).tmps [15, 16] c65.s2.s2.s1.s2.bd.ras c65.s2.s2.s1.s2.bd.rbd .ready none, accB 101 (List.length ([])) (List.flatMap e101 ([]))]) (Wk.an [8] (.ac (.lt (.fl .nil) (.lt (.fl .nil) (.lt (.fl .nil) (.lt (.cons (Rn.accN) .nil) (.lt (.sl .nil) (.cons (At.blk (by kernel_rfl) RnB.mark) (.cons (At.blk (b1 := .loop (S65_18).tmps [15, 16] c65.s2.s2.s1.s2.bd.ras c65.s2.s2.s1.s2.bd.rbd .ready none) (by kernel_rfl) (RnB.loop _ _ _ _ _ _ _ (LRn.stx [3, 4, 5, 6, 14] [pt 1 0, pt 2 0, pt 3 0, pt 4 0, .func (.func 98) ⟨[]⟩ ⟨[pt 5 0]⟩] [pt 1 0, pt 2 0, pt 3 0, pt 4 0, .func (.func 98) ⟨[]⟩ ⟨[pt 5 0]⟩] (.pp (.pp (.pp (.pp (.cons (Rn.func' .nil (.pp .nil)) .nil))))) (by kernel_rfl) (by kernel_rfl) rfl))) (.cons At.accN (.nil _)))))))))) [.func (.yield 7) #[] #[], pt 5 0, sl 0 p0, iv (p0.length : Int), iv 0] (.cons (Rn.yield _ (nl rfl)) (.pp (.sl (.fl (.fl .nil)))))) (TL.post (L65l0 p0 p1 0 ([]) r519 h520) ?_))
 rintro e a1 h1 hp
 rcases r519 with o521 | o522
 · skip
   obtain ⟨rfl, hw⟩ := hp
   refine ⟨(st 36 []), [ab 55 e55 p0, cl 3 [iv p1], cl 111 [.slice none 0 0], cl 4 [.bool false], cl 111 [accV 8 o521.length], cl 23 [sl 0 p0], .mark, .loop (S65_18).tmps [15, 16] c65.s2.s2.s1.s2.bd.ras c65.s2.s2.s1.s2.bd.rbd .done (some .ret), ab 101 e101 o521], (NX.bkR ?_), hw⟩
   refine ⟨.inr rfl, rfl, ⟨.tuple ⟨[]⟩, by kernel_rfl⟩, .inr ⟨(S65_18).tmps, [15, 16], c65.s2.s2.s1.s2.bd.ras, c65.s2.s2.s1.s2.bd.rbd, .ret, by kernel_rfl, (TS0.startM [4, 5] [0, 2, 3, 6] (a2 := (stm 77 [6] [(4, pt 2 0), (5, pt 3 0)])) (h2 := [ab 55 e55 p0, .dead, cl 111 [.slice none 0 0], cl 4 [.bool false], .dead, .dead, .mark, .dead, .dead]) (by kernel_rfl) (TS0.piece (TS.rt (NX.z (NX0.bkR (NX0.sqR ?_))))))⟩⟩
   have hF := sj hF
   subst hF
   exact ⟨.inr rfl, [ab 55 e55 p0, .dead, cl 111 [.slice none 0 0], cl 4 [.bool false], .dead, .dead, .dead, .dead, .dead], by kernel_rfl, .tuple ⟨[.slice none 0 0, .bool false]⟩, by kernel_rfl, WkV.made (L := 1) (f := [9]) (by decide) (by decide) rfl (.cons At.accN (.nil _)) (Rn.tuple' (.cons Rn.accN (.fl .nil)))⟩
 skip
 obtain ⟨rfl, hw⟩ := hp
 refine ⟨(st 36 []), [ab 55 e55 p0, cl 3 [iv p1], cl 111 [.slice none 0 0], cl 4 [.bool false], cl 111 [accV 8 o522.length], cl 23 [sl 0 p0], .mark, .loop (S65_18).tmps [15, 16] c65.s2.s2.s1.s2.bd.ras c65.s2.s2.s1.s2.bd.rbd .ready none, ab 101 e101 o522], (NX.bkX ?_), hw⟩
 refine ⟨.inl rfl, rfl, ⟨.tuple ⟨[]⟩, by kernel_rfl⟩, .inl ⟨(S65_18).tmps, [15, 16], c65.s2.s2.s1.s2.bd.ras, c65.s2.s2.s1.s2.bd.rbd, by kernel_rfl, (NX0.bk (NX0.sq (TS0.startM [4, 5, 6] [0, 2, 3, 4, 6, 8] (a2 := (stm 77 [6] [(4, pt 2 0), (5, pt 3 0), (6, pt 4 0)])) (h2 := (H65_10 p0 o522)) (by kernel_rfl) (TS0.piece (TS.sq ?_)))))⟩⟩
 obtain ⟨r523, h524, hF⟩ := of_do hF
 refine TS.rg (TI.ra 1 [4, 5, 6, 74] (stm 77 [6] [(4, pt 2 0), (5, pt 3 0), (6, pt 4 0), (74, accV 8 o522.length)]) (TI.rn 0 [4, 5, 6, 74] [0, 2, 3, 4, 6, 8] (stm 77 [6] [(4, pt 2 0), (5, pt 3 0), (6, pt 4 0), (74, accV 8 o522.length)]) (H65_10 p0 o522) ?_))
 have hl525 := sort92_len h524
 refine TI.sort92 (k := 8) h524 (by kernel_rfl) (by kernel_rfl) (by decide) rfl [4, 5, 6] [0, 2, 3, 4, 6, 8] (a2 := (stm 77 [6] [(4, pt 2 0), (5, pt 3 0), (6, pt 4 0)])) (h2 := [ab 55 e55 p0, .dead, cl 111 [.slice none 0 0], cl 4 [.bool false], cl 111 [accV 8 r523.length], .dead, .mark, .dead, ab 101 e101 r523]) (Eq.subst (motive := fun nn => mk2 [4, 5, 6] [0, 2, 3, 4, 6, 8] (putAt c65.s2.s2.s2.s1.rops 1 (stm 77 [6] [(4, pt 2 0), (5, pt 3 0), (6, pt 4 0), (74, accV 8 o522.length)]) (.tuple ⟨[]⟩), List.set (H65_10 p0 o522) 8 (accB 101 nn (List.flatMap e101 r523))) = ((stm 77 [6] [(4, pt 2 0), (5, pt 3 0), (6, pt 4 0)]), [ab 55 e55 p0, .dead, cl 111 [.slice none 0 0], cl 4 [.bool false], cl 111 [accV 8 (nn)], .dead, .mark, .dead, accB 101 (nn) (List.flatMap e101 r523)])) hl525.symm (by kernel_rfl)) (TI.dq (TS.sq (TS.rg (TI.rn 3 [4, 5] [0, 2, 3, 6, 8] (stm 77 [6] [(4, pt 2 0), (5, pt 3 0)]) [ab 55 e55 p0, .dead, cl 111 [accV 8 r523.length], cl 4 [.bool true], .dead, .dead, .mark, .dead, ab 101 e101 r523] (TI.dq (TS.rt ?_))))))
 refine NX.z ?_
 have hF := sj hF
 subst hF
 exact ⟨.inr rfl, [ab 55 e55 p0, .dead, cl 111 [accV 8 r523.length], cl 4 [.bool true], .dead, .dead, .dead, .dead, ab 101 e101 r523], by kernel_rfl, .tuple ⟨[accV 8 r523.length, .bool true]⟩, by kernel_rfl, WkV.made (L := 1) (f := [8]) (by decide) (by decide) rfl (.ac (.nil _)) (Rn.tuple' (.cons (Rn.acc (nl rfl) rfl) (.fl .nil)))⟩
theorem C65 (p0 : List I2) (p1 : Int) (r : (List I2) × Bool) (hF : F65 p0 p1 = some r) : PureSim Pg 65 [sl 0 p0, iv p1] [ab 55 e55 p0] (V65 1 r) (N65 1 r) :=
 PureSim.of_FinM Try.func65 (c := c65) (by kernel_rfl) (by kernel_rfl) 1 rfl [0, 1] [0] (by kernel_rfl) (B65 p0 p1 r hF)
noncomputable def c24 : Code := Try.f24.code
def H24_0 (p0 : List I2) (r7 : (List I2) × Bool) (v17 : List I2) : List Blk := [ab 55 e55 p0, ab 101 e101 r7.1, ab 29 e29 v17]
def F24l0 (p0 : List I2) (r7 : (List I2) × Bool) (v17 : List I2) (v16 : Int) : Option (List I2) :=
 if decide (v16 < (r7.1.length : Int)) then
  if (0 : Int) ≤ v16 ∧ v16 < (r7.1.length : Int) then
   some (List.getD r7.1 v16.toNat (0, 0)) >>= fun o29 =>
   F56 o29.1 o29.2 >>= fun r31 =>
   if List.length v17 ≤ 1000000000 then
    F24l0 p0 r7 (v17 ++ [(r31.1, r31.2)]) (w64 (v16 + 1))
   else none
  else none
 else
  some v17
 partial_fixpoint
def F24 (p0 : List I2) (p1 : Int) : Option ((List I2) × Int) :=
 F22 p0 >>= fun r1 =>
 if r1 != 0 then
  some ([], r1)
 else
  F53 p1 >>= fun r4 =>
  if !r4 then
   some ([], 1)
  else
   F65 p0 p1 >>= fun r7 =>
   if !r7.2 then
    some ([], 16)
   else
    F24l0 p0 r7 ([]) 0 >>= fun r34 =>
    some (r34, 0)
def V24 (b : Nat) (r : (List I2) × Int) : Value := .tuple ⟨[accV (b + 0) r.1.length, iv r.2]⟩
def N24 (b : Nat) (r : (List I2) × Int) : List Blk := [ab 29 e29 r.1]
def P24l0 (p0 : List I2) (r7 : (List I2) × Bool) (r : List I2) : Post := fun e a h => e = .exit 1 ∧ Wk Pg 1 1 a h (st 43 [(9, accV 1 r.length)]) [ab 55 e55 p0, ab 29 e29 r]
theorem L24l0 (p0 : List I2) (r7 : (List I2) × Bool) (v17 : List I2) (v16 : Int) (r : List I2) (hF : F24l0 p0 r7 v17 v16 = some r) : TL Pg 1 1 c24.s2.s2.s2.s2.s2.s2.s1.s2.bd.bd (st 43 [(9, accV 2 v17.length), (30, accV 1 r7.1.length), (31, iv (r7.1.length : Int)), (32, iv v16)]) (H24_0 p0 r7 v17) (P24l0 p0 r7 r) := by
 refine F24l0.partial_correctness p0 r7 (motive := fun v17 v16 r => TL Pg 1 1 c24.s2.s2.s2.s2.s2.s2.s1.s2.bd.bd (st 43 [(9, accV 2 v17.length), (30, accV 1 r7.1.length), (31, iv (r7.1.length : Int)), (32, iv v16)]) (H24_0 p0 r7 v17) (P24l0 p0 r7 r)) ?_ v17 v16 r hF
 clear hF r v17 v16
 intro again ih v17 v16 r hF
 refine TL.round (TS.sq (TS.rg (TI.ra 1 [9, 30, 31, 32, 33] (st 43 [(9, accV 2 v17.length), (30, accV 1 r7.1.length), (31, iv (r7.1.length : Int)), (32, iv v16), (33, .bool (decide (v16 < (r7.1.length : Int))))]) (TI.dq (TS.sq ?_)))))
 refine TS.cd (.tmp 33) (decide (v16 < (r7.1.length : Int))) (fun hc27 => ?_) (fun hc27 => ?_)
 · replace hF := of_pos hF hc27
   refine TS.sk (NX.sq (TS.sq (TS.bk 2 (TS.sq ?_))))
   obtain ⟨hg28, hF⟩ := of_guard hF
   obtain ⟨o29, h30, hF⟩ := of_do hF
   replace h30 := sj h30
   refine TS.rg (TI.o { val := pt 1 (0 + v16.toNat * 2) } (q_ixAcc (P := Pg) (t := 111) (s := 2) (e := 101) 1 r7.1.length (by kernel_rfl) hg28 (by kernel_rfl) (by kernel_rfl)) [9, 30, 31, 32, 34] [0, 1, 2] (st 43 [(9, accV 2 v17.length), (30, accV 1 r7.1.length), (31, iv (r7.1.length : Int)), (32, iv v16), (34, pt 1 (0 + v16.toNat * 2))]) (H24_0 p0 r7 v17) (TI.o { val := ag [iv o29.1, iv o29.2] } (q_nAa Pg (H24_0 p0 r7 v17) 101 1 (0 + v16.toNat * 2) r7.1 e101 2 101 v16.toNat (0, 0) h30) [9, 30, 31, 32, 35] [0, 1, 2] (st 43 [(9, accV 2 v17.length), (30, accV 1 r7.1.length), (31, iv (r7.1.length : Int)), (32, iv v16), (35, ag [iv o29.1, iv o29.2])]) (H24_0 p0 r7 v17) (TI.rn 2 [9, 11, 30, 31, 32] [0, 1, 2, 3] (st 43 [(9, accV 2 v17.length), (11, pt 3 0), (30, accV 1 r7.1.length), (31, iv (r7.1.length : Int)), (32, iv v16)]) [ab 55 e55 p0, ab 101 e101 r7.1, ab 29 e29 v17, cl 101 [iv o29.1, iv o29.2]] (TI.dq ?_))))
   obtain ⟨r31, h32, hF⟩ := of_do hF
   obtain ⟨hg33, hF⟩ := of_guard hF
   refine TS.rg (TI.rn 2 [30, 31, 32, 36, 37] [0, 1, 2] (st 43 [(30, accV 1 r7.1.length), (31, iv (r7.1.length : Int)), (32, iv v16), (36, accV 2 v17.length), (37, ag [iv o29.1, iv o29.2])]) [ab 55 e55 p0, ab 101 e101 r7.1, ab 29 e29 v17, .dead] (TI.cf (C56 _ _ _ h32) (TI.rn 1 [30, 31, 32, 36, 39] [0, 1, 2, 4] (st 43 [(30, accV 1 r7.1.length), (31, iv (r7.1.length : Int)), (32, iv v16), (36, accV 2 v17.length), (39, sv 4 1 1)]) [ab 55 e55 p0, ab 101 e101 r7.1, ab 29 e29 v17, .dead, cl 29 [iv r31.1, iv r31.2]] (TI.acc (l := v17) (b := 2) (ts := #[42, 42]) (e := 29) (bytes := 16) (z := ag [iv 0, iv 0]) (y := sv 4 1 1) (ys := [(r31.1, r31.2)]) (xs := List.flatMap e29 ([(r31.1, r31.2)])) (m := 1) (s := 2) (enc := e29) (by kernel_rfl) (by kernel_rfl) (by decide) (by kernel_rfl) (by kernel_rfl) (by kernel_rfl) (by kernel_rfl) (by kernel_rfl) (by kernel_rfl) (by kernel_rfl) (by kernel_rfl) (fun _ => rfl) rfl rfl (by omega) [30, 31, 32, 40] [0, 1, 5] (a2 := (st 43 [(30, accV 1 r7.1.length), (31, iv (r7.1.length : Int)), (32, iv v16), (40, sv 5 (List.length (v17 ++ [(r31.1, r31.2)])) UNK)])) (h2 := [ab 55 e55 p0, ab 101 e101 r7.1, .dead, .dead, .dead, lb29 (v17 ++ [(r31.1, r31.2)])]) (by kernel_rfl) (TI.ra 1 [9, 30, 31, 32] (st 43 [(9, sv 5 (List.length (v17 ++ [(r31.1, r31.2)])) UNK), (30, accV 1 r7.1.length), (31, iv (r7.1.length : Int)), (32, iv v16)]) (TI.dn (NX.bk (NX.sq ?_))))))))
   refine TS.rg (TI.ra 2 [9, 30, 31, 32] (st 43 [(9, sv 5 (List.length (v17 ++ [(r31.1, r31.2)])) UNK), (30, accV 1 r7.1.length), (31, iv (r7.1.length : Int)), (32, iv (w64 (v16 + 1)))]) (TI.dn ?_))
   exact Rd.again (a2 := (st 43 [(9, accV 2 (List.length (v17 ++ [(r31.1, r31.2)]))), (30, accV 1 r7.1.length), (31, iv (r7.1.length : Int)), (32, iv (w64 (v16 + 1)))])) (h2 := [ab 55 e55 p0, ab 101 e101 r7.1, accB 29 (List.length (v17 ++ [(r31.1, r31.2)])) (List.flatMap e29 (v17 ++ [(r31.1, r31.2)]))]) (Wk.an [1, 5] (.ac (.ac (.cons (At.accU (by kernel_rfl) rfl (fun _ => rfl)) (.nil _)))) [sv 5 (List.length (v17 ++ [(r31.1, r31.2)])) UNK, accV 1 r7.1.length, iv (r7.1.length : Int), iv (w64 (v16 + 1))] (.cons (Rn.accU (nl rfl) rfl (by simp)) (.cons (Rn.acc (nl rfl) rfl) (.fl (.fl .nil))))) (ih (v17 ++ [(r31.1, r31.2)]) (w64 (v16 + 1)) _ hF)
 replace hF := of_neg hF hc27
 refine TS.ex 1 (NX.sqX ?_)
 have hF := sj hF
 subst hF
 exact Rd.out (e := .exit 1) (by intro h; cases h) (And.intro rfl (Wk.an [2] (.ac (.ac (.nil _))) [accV 2 v17.length] (.cons (Rn.acc (nl rfl) rfl) .nil)))
theorem B24 (p0 : List I2) (p1 : Int) (r : (List I2) × Int) (hF : F24 p0 p1 = some r) : TS Pg 1 1 c24 (st 43 [(0, sl 0 p0), (1, iv p1)]) [ab 55 e55 p0] (NX Pg 1 1 [] (FinP Pg Try.f24 1 (V24 1 r) (N24 1 r))) := by
 unfold F24 at hF
 refine TS.sq (TS.rg (TI.ra 2 [0, 1] (st 43 [(0, sl 0 p0), (1, iv p1)]) (TI.dq (TS.sq ?_))))
 obtain ⟨r1, h2, hF⟩ := of_do hF
 refine TS.rg (TI.ra 1 [0, 1, 12] (st 43 [(0, sl 0 p0), (1, iv p1), (12, sl 0 p0)]) (TI.cp 22 [sl 0 p0] (iv r1) [] (PureSim.ren (hc := [ab 55 e55 p0]) (fun i => List.getD [(0, 0)] i (0, 0)) (C22 _ _ h2) (.ac (.nil _)) (.cons (Rn.any _ _ _ _ _ _ (nl rfl) rfl rfl (by decide)) .nil) (.flat (by kernel_rfl)) newflat_nil) (TI.ra 1 [0, 1, 6] (st 43 [(0, sl 0 p0), (1, iv p1), (6, iv r1)]) (TI.dq (TS.sq (TS.bk 0 (TS.sq ?_)))))))
 refine TS.rg (TI.ra 3 [0, 1, 6, 14] (st 43 [(0, sl 0 p0), (1, iv p1), (6, iv r1), (14, .bool (r1 != 0))]) (TI.dq ?_))
 refine TS.cd (.tmp 14) (r1 != 0) (fun hc3 => ?_) (fun hc3 => ?_)
 · replace hF := of_pos hF hc3
   refine TS.sq (TS.rg (TI.ra 3 [4, 5] (st 43 [(4, .slice none 0 0), (5, iv r1)]) (TI.dq (TS.rt (NX.bkR (NX.sqR ?_))))))
   have hF := sj hF
   subst hF
   exact ⟨.inr rfl, rfl, .tuple ⟨[.slice none 0 0, iv r1]⟩, by kernel_rfl, WkV.made (L := 1) (f := [1]) (by decide) (by decide) rfl (.cons At.accN (.nil _)) (Rn.tuple' (.cons Rn.accN (.fl .nil)))⟩
 replace hF := of_neg hF hc3
 refine TS.sq ?_
 obtain ⟨r4, h5, hF⟩ := of_do hF
 refine TS.rg (TI.ra 1 [0, 1, 19] (st 43 [(0, sl 0 p0), (1, iv p1), (19, iv p1)]) (TI.cf (C53 _ _ h5) (TI.ra 2 [0, 1, 18] (st 43 [(0, sl 0 p0), (1, iv p1), (18, .bool (!r4))]) (TI.dq ?_))))
 refine TS.cd (.tmp 18) (!r4) (fun hc6 => ?_) (fun hc6 => ?_)
 · replace hF := of_pos hF hc6
   refine TS.sq (TS.rg (TI.ra 2 [4, 5] (st 43 [(4, .slice none 0 0), (5, iv 1)]) (TI.dq (TS.rt (NX.bkR (NX.sqR ?_))))))
   have hF := sj hF
   subst hF
   exact ⟨.inr rfl, rfl, .tuple ⟨[.slice none 0 0, iv 1]⟩, by kernel_rfl, WkV.made (L := 1) (f := [1]) (by decide) (by decide) rfl (.cons At.accN (.nil _)) (Rn.tuple' (.cons Rn.accN (.fl .nil)))⟩
 replace hF := of_neg hF hc6
 refine TS.sk (NX.bk (NX.sq (TS.sq ?_)))
 obtain ⟨r7, h8, hF⟩ := of_do hF
 refine TS.rg (TI.ra 2 [23, 24] (st 43 [(23, sl 0 p0), (24, iv p1)]) (TI.cp 65 [sl 0 p0, iv p1] (.tuple ⟨[accV 1 r7.1.length, .bool r7.2]⟩) [ab 101 e101 r7.1] (PureSim.ren (hc := [ab 55 e55 p0]) (fun i => List.getD [(0, 0)] i (0, 0)) (C65 _ _ _ h8) (.ac (.nil _)) (.cons (Rn.any _ _ _ _ _ _ (nl rfl) rfl rfl (by decide)) (.fl .nil)) (Rn.tuple' (.cons (Rn.acc (i' := 1) (nl rfl) rfl) (.fl .nil))) (newflat_cons (accB_flat (fun _ => rfl)) newflat_nil)) (TI.rn 5 [7, 8] [0, 1] (st 43 [(7, accV 1 r7.1.length), (8, .bool r7.2)]) [ab 55 e55 p0, ab 101 e101 r7.1] (TI.dq (TS.sq (TS.sq (TS.rg ?_)))))))
 refine TI.ra 2 [7, 29] (st 43 [(7, accV 1 r7.1.length), (29, .bool (!r7.2))]) (TI.dq ?_)
 refine TS.cd (.tmp 29) (!r7.2) (fun hc9 => ?_) (fun hc9 => ?_)
 · replace hF := of_pos hF hc9
   refine TS.sq (TS.rg (TI.rn 2 [4, 5] [0] (st 43 [(4, .slice none 0 0), (5, iv 16)]) [ab 55 e55 p0, .dead] (TI.dq (TS.rt (NX.sqR ?_)))))
   have hF := sj hF
   subst hF
   exact ⟨.inr rfl, rfl, .tuple ⟨[.slice none 0 0, iv 16]⟩, by kernel_rfl, WkV.made (L := 1) (f := [2]) (by decide) (by decide) rfl (.cons At.accN (.nil _)) (Rn.tuple' (.cons Rn.accN (.fl .nil)))⟩
 replace hF := of_neg hF hc9
 refine TS.sk (NX.sq (TS.sq (TS.rg (TI.ra 1 [7, 9] (st 43 [(7, accV 1 r7.1.length), (9, .slice none 0 0)]) (TI.dq (TS.sq (TS.sq ?_)))))))
 refine TS.rg (TI.ra 3 [9, 30, 31, 32] (st 43 [(9, .slice none 0 0), (30, accV 1 r7.1.length), (31, iv (r7.1.length : Int)), (32, iv 0)]) (TI.dq (TS.bk 1 ?_)))
 obtain ⟨r34, h35, hF⟩ := of_do hF
 refine TS.lp (TL.weak (a2 := (st 43 [(9, accV 2 (List.length ([]))), (30, accV 1 r7.1.length), (31, iv (r7.1.length : Int)), (32, iv 0)])) (h2 := [ab 55 e55 p0, ab 101 e101 r7.1, accB 29 (List.length ([])) (List.flatMap e29 ([]))]) (Wk.an [1, 2] (.ac (.ac (.cons At.accN (.nil _)))) [.slice none 0 0, accV 1 r7.1.length, iv (r7.1.length : Int), iv 0] (.cons (Rn.accN) (.cons (Rn.acc (nl rfl) rfl) (.fl (.fl .nil))))) (TL.post (L24l0 p0 r7 ([]) 0 r34 h35) ?_))
 rintro e a1 h1 hp
 obtain ⟨rfl, hw⟩ := hp
 refine ⟨(st 43 [(9, accV 1 r34.length)]), [ab 55 e55 p0, ab 29 e29 r34], (NX.bkX (NX.sq (TS.sq (TS.rg (TI.ra 3 [4, 5] (st 43 [(4, accV 1 r34.length), (5, iv 0)]) (TI.dq (TS.rt ?_))))))), hw⟩
 have hF := sj hF
 subst hF
 exact ⟨.inr rfl, rfl, .tuple ⟨[accV 1 r34.length, iv 0]⟩, by kernel_rfl, WkV.made (L := 1) (f := [1]) (by decide) (by decide) rfl (.ac (.nil _)) (Rn.tuple' (.cons (Rn.acc (nl rfl) rfl) (.fl .nil)))⟩
theorem C24 (p0 : List I2) (p1 : Int) (r : (List I2) × Int) (hF : F24 p0 p1 = some r) : PureSim Pg 24 [sl 0 p0, iv p1] [ab 55 e55 p0] (V24 1 r) (N24 1 r) :=
 PureSim.of_Fin Try.func24 (c := c24) (by kernel_rfl) (by kernel_rfl) 1 rfl [0, 1] [0] (by kernel_rfl) (B24 p0 p1 r hF)
noncomputable def c71 : Code := Try.f71.code
def H71_0 (p0 : List I2) (r1 : (List I2) × Bool) : List Blk := [ab 55 e55 p0, cl 101 [iv 0, iv 0], ab 101 e101 r1.1]
def F71 (p0 : List I2) (p1 : Int) : Option I2 :=
 F65 p0 p1 >>= fun r1 =>
 if (0 : Int) ≤ 0 ∧ 0 < (r1.1.length : Int) then
  some (List.getD r1.1 (Int.toNat 0) (0, 0)) >>= fun o4 =>
  F54 p0 o4.1 o4.2 >>= fun r6 =>
  some (r6.1, r6.2)
 else none
def V71 (b : Nat) (r : I2) : Value := ag [iv r.1, iv r.2]
def N71 (b : Nat) (r : I2) : List Blk := []
theorem B71 (p0 : List I2) (p1 : Int) (r : I2) (hF : F71 p0 p1 = some r) : TS Pg 1 1 c71 (st 18 [(0, sl 0 p0), (1, iv p1)]) [ab 55 e55 p0] (NX Pg 1 1 [] (FinP Pg Try.f71 1 (V71 1 r) (N71 1 r))) := by
 unfold F71 at hF
 refine TS.sq (TS.rg (TI.rn 1 [0, 1, 4] [0, 1] (st 18 [(0, sl 0 p0), (1, iv p1), (4, pt 1 0)]) [ab 55 e55 p0, cl 101 [iv 0, iv 0]] (TI.dq (TS.sq ?_))))
 obtain ⟨r1, h2, hF⟩ := of_do hF
 refine TS.rg (TI.ra 2 [0, 4, 8, 9] (st 18 [(0, sl 0 p0), (4, pt 1 0), (8, sl 0 p0), (9, iv p1)]) (TI.cp 65 [sl 0 p0, iv p1] (.tuple ⟨[accV 2 r1.1.length, .bool r1.2]⟩) [ab 101 e101 r1.1] (PureSim.ren (hc := [ab 55 e55 p0]) (fun i => List.getD [(0, 0)] i (0, 0)) (C65 _ _ _ h2) (.ac (.nil _)) (.cons (Rn.any _ _ _ _ _ _ (nl rfl) rfl rfl (by decide)) (.fl .nil)) (Rn.tuple' (.cons (Rn.acc (i' := 2) (nl rfl) rfl) (.fl .nil))) (newflat_cons (accB_flat (fun _ => rfl)) newflat_nil)) (TI.rn 5 [0, 4, 5] [0, 1, 2] (st 18 [(0, sl 0 p0), (4, pt 1 0), (5, accV 2 r1.1.length)]) (H71_0 p0 r1) (TI.dq (TS.sq ?_)))))
 obtain ⟨hg3, hF⟩ := of_guard hF
 obtain ⟨o4, h5, hF⟩ := of_do hF
 replace h5 := sj h5
 obtain ⟨r6, h7, hF⟩ := of_do hF
 refine TS.rg (TI.ra 2 [4, 13, 14] (st 18 [(4, pt 1 0), (13, sl 0 p0), (14, accV 2 r1.1.length)]) (TI.o { val := pt 2 (0 + (Int.toNat 0) * 2) } (q_ixAcc (P := Pg) (t := 111) (s := 2) (e := 101) 2 r1.1.length (by kernel_rfl) hg3 (by kernel_rfl) (by kernel_rfl)) [4, 13, 15] [0, 1, 2] (st 18 [(4, pt 1 0), (13, sl 0 p0), (15, pt 2 (0 + (Int.toNat 0) * 2))]) (H71_0 p0 r1) (TI.o { val := ag [iv o4.1, iv o4.2] } (q_nAa Pg (H71_0 p0 r1) 101 2 (0 + (Int.toNat 0) * 2) r1.1 e101 2 101 (Int.toNat 0) (0, 0) h5) [4, 13, 16] [0, 1] (st 18 [(4, pt 1 0), (13, sl 0 p0), (16, ag [iv o4.1, iv o4.2])]) [ab 55 e55 p0, cl 101 [iv 0, iv 0], .dead] (TI.cp 54 [sl 0 p0, ag [iv o4.1, iv o4.2]] (ag [iv r6.1, iv r6.2]) [] (PureSim.ren (hc := [ab 55 e55 p0]) (fun i => List.getD [(0, 0)] i (0, 0)) (C54 _ _ _ _ h7) (.ac (.nil _)) (.cons (Rn.any _ _ _ _ _ _ (nl rfl) rfl rfl (by decide)) (.fl .nil)) (.flat (by kernel_rfl)) newflat_nil) (TI.rn 1 [4] [0, 1] (st 18 [(4, pt 1 0)]) [ab 55 e55 p0, cl 101 [iv r6.1, iv r6.2], .dead] (TI.dq (TS.rt ?_)))))))
 have hF := sj hF
 subst hF
 exact ⟨.inr rfl, rfl, ag [iv r6.1, iv r6.2], by kernel_rfl, WkV.flat0 (by kernel_rfl) (nl rfl)⟩
theorem C71 (p0 : List I2) (p1 : Int) (r : I2) (hF : F71 p0 p1 = some r) : PureSim Pg 71 [sl 0 p0, iv p1] [ab 55 e55 p0] (V71 1 r) (N71 1 r) :=
 PureSim.of_Fin Try.func71 (c := c71) (by kernel_rfl) (by kernel_rfl) 1 rfl [0, 1] [0] (by kernel_rfl) (B71 p0 p1 r hF)
noncomputable def c26 : Code := Try.f26.code
def F26 (p0 : List I2) (p1 : Int) : Option (I2 × Int) :=
 F22 p0 >>= fun r1 =>
 if r1 != 0 then
  some ((0, 0), r1)
 else
  F53 p1 >>= fun r4 =>
  if !r4 then
   some ((0, 0), 1)
  else
   F60 p0 >>= fun r7 =>
   if decide ((r7.length : Int) > 0) then
    some ((0, 0), 21)
   else
    F71 p0 p1 >>= fun r10 =>
    F56 r10.1 r10.2 >>= fun r12 =>
    some ((r12.1, r12.2), 0)
def V26 (b : Nat) (r : I2 × Int) : Value := .tuple ⟨[ag [iv r.1.1, iv r.1.2], iv r.2]⟩
def N26 (b : Nat) (r : I2 × Int) : List Blk := []
theorem B26 (p0 : List I2) (p1 : Int) (r : I2 × Int) (hF : F26 p0 p1 = some r) : TS Pg 1 1 c26 (st 29 [(0, sl 0 p0), (1, iv p1)]) [ab 55 e55 p0] (NX Pg 1 1 [] (FinP Pg Try.f26 1 (V26 1 r) (N26 1 r))) := by
 unfold F26 at hF
 refine TS.sq (TS.rg (TI.rn 2 [0, 1, 4] [0, 1] (st 29 [(0, sl 0 p0), (1, iv p1), (4, pt 1 0)]) [ab 55 e55 p0, cl 29 [iv 0, iv 0]] (TI.dq (TS.sq ?_))))
 obtain ⟨r1, h2, hF⟩ := of_do hF
 refine TS.rg (TI.ra 1 [0, 1, 4, 7] (st 29 [(0, sl 0 p0), (1, iv p1), (4, pt 1 0), (7, sl 0 p0)]) (TI.cp 22 [sl 0 p0] (iv r1) [] (PureSim.ren (hc := [ab 55 e55 p0]) (fun i => List.getD [(0, 0)] i (0, 0)) (C22 _ _ h2) (.ac (.nil _)) (.cons (Rn.any _ _ _ _ _ _ (nl rfl) rfl rfl (by decide)) .nil) (.flat (by kernel_rfl)) newflat_nil) (TI.ra 1 [0, 1, 4, 6] (st 29 [(0, sl 0 p0), (1, iv p1), (4, pt 1 0), (6, iv r1)]) (TI.dq (TS.sq (TS.bk 0 (TS.sq ?_)))))))
 refine TS.rg (TI.ra 3 [0, 1, 4, 6, 9] (st 29 [(0, sl 0 p0), (1, iv p1), (4, pt 1 0), (6, iv r1), (9, .bool (r1 != 0))]) (TI.dq ?_))
 refine TS.cd (.tmp 9) (r1 != 0) (fun hc3 => ?_) (fun hc3 => ?_)
 · replace hF := of_pos hF hc3
   refine TS.sq (TS.rg (TI.ra 4 [4, 5] (st 29 [(4, pt 1 0), (5, iv r1)]) (TI.dq (TS.rt (NX.bkR (NX.sqR ?_))))))
   have hF := sj hF
   subst hF
   exact ⟨.inr rfl, rfl, .tuple ⟨[ag [iv 0, iv 0], iv r1]⟩, by kernel_rfl, WkV.flat0 (by kernel_rfl) (nl rfl)⟩
 replace hF := of_neg hF hc3
 refine TS.sq ?_
 obtain ⟨r4, h5, hF⟩ := of_do hF
 refine TS.rg (TI.ra 1 [0, 1, 4, 15] (st 29 [(0, sl 0 p0), (1, iv p1), (4, pt 1 0), (15, iv p1)]) (TI.cf (C53 _ _ h5) (TI.ra 2 [0, 1, 4, 14] (st 29 [(0, sl 0 p0), (1, iv p1), (4, pt 1 0), (14, .bool (!r4))]) (TI.dq ?_))))
 refine TS.cd (.tmp 14) (!r4) (fun hc6 => ?_) (fun hc6 => ?_)
 · replace hF := of_pos hF hc6
   refine TS.sq (TS.rg (TI.ra 3 [4, 5] (st 29 [(4, pt 1 0), (5, iv 1)]) (TI.dq (TS.rt (NX.bkR (NX.sqR ?_))))))
   have hF := sj hF
   subst hF
   exact ⟨.inr rfl, rfl, .tuple ⟨[ag [iv 0, iv 0], iv 1]⟩, by kernel_rfl, WkV.flat0 (by kernel_rfl) (nl rfl)⟩
 replace hF := of_neg hF hc6
 refine TS.sq ?_
 obtain ⟨r7, h8, hF⟩ := of_do hF
 refine TS.rg (TI.ra 1 [0, 1, 4, 20] (st 29 [(0, sl 0 p0), (1, iv p1), (4, pt 1 0), (20, sl 0 p0)]) (TI.cp 60 [sl 0 p0] (accV 2 r7.length) [ab 3 e3 r7] (PureSim.ren (hc := [ab 55 e55 p0]) (fun i => List.getD [(0, 0)] i (0, 0)) (C60 _ _ h8) (.ac (.nil _)) (.cons (Rn.any _ _ _ _ _ _ (nl rfl) rfl rfl (by decide)) .nil) (Rn.acc (i' := 2) (nl rfl) rfl) (newflat_cons (accB_flat (fun _ => rfl)) newflat_nil)) (TI.rn 3 [0, 1, 4, 19] [0, 1] (st 29 [(0, sl 0 p0), (1, iv p1), (4, pt 1 0), (19, .bool (decide ((r7.length : Int) > 0)))]) [ab 55 e55 p0, cl 29 [iv 0, iv 0], .dead] (TI.dq ?_))))
 refine TS.cd (.tmp 19) (decide ((r7.length : Int) > 0)) (fun hc9 => ?_) (fun hc9 => ?_)
 · replace hF := of_pos hF hc9
   refine TS.sq (TS.rg (TI.ra 3 [4, 5] (st 29 [(4, pt 1 0), (5, iv 21)]) (TI.dq (TS.rt (NX.bkR (NX.sqR ?_))))))
   have hF := sj hF
   subst hF
   exact ⟨.inr rfl, rfl, .tuple ⟨[ag [iv 0, iv 0], iv 21]⟩, by kernel_rfl, WkV.flat0 (by kernel_rfl) (nl rfl)⟩
 replace hF := of_neg hF hc9
 refine TS.sk (NX.bk (NX.sq (TS.sq ?_)))
 obtain ⟨r10, h11, hF⟩ := of_do hF
 obtain ⟨r12, h13, hF⟩ := of_do hF
 refine TS.rg (TI.ra 2 [4, 25, 26] (st 29 [(4, pt 1 0), (25, sl 0 p0), (26, iv p1)]) (TI.callM (g := 71) (args := [sl 0 p0, iv p1]) (v := ag [iv r10.1, iv r10.2]) (new := []) (by kernel_rfl) (PureSim.ren (hc := [ab 55 e55 p0]) (fun i => List.getD [(0, 0)] i (0, 0)) (C71 _ _ _ h11) (.ac (.nil _)) (.cons (Rn.any _ _ _ _ _ _ (nl rfl) rfl rfl (by decide)) (.fl .nil)) (.flat (by kernel_rfl)) newflat_nil) [4, 27] [0, 1] (a2 := (st 29 [(4, pt 1 0), (27, ag [iv r10.1, iv r10.2])])) (h2 := [ab 55 e55 p0, cl 29 [iv 0, iv 0], .dead]) (by kernel_rfl) (TI.cf (C56 _ _ _ h13) (TI.rn 2 [4, 5] [0, 1] (st 29 [(4, pt 1 0), (5, iv 0)]) [ab 55 e55 p0, cl 29 [iv r12.1, iv r12.2], .dead] (TI.dq (TS.rt ?_))))))
 have hF := sj hF
 subst hF
 exact ⟨.inr rfl, rfl, .tuple ⟨[ag [iv r12.1, iv r12.2], iv 0]⟩, by kernel_rfl, WkV.flat0 (by kernel_rfl) (nl rfl)⟩
theorem C26 (p0 : List I2) (p1 : Int) (r : I2 × Int) (hF : F26 p0 p1 = some r) : PureSim Pg 26 [sl 0 p0, iv p1] [ab 55 e55 p0] (V26 1 r) (N26 1 r) :=
 PureSim.of_Fin Try.func26 (c := c26) (by kernel_rfl) (by kernel_rfl) 1 rfl [0, 1] [0] (by kernel_rfl) (B26 p0 p1 r hF)
end
end Go.Proofs.Ythpfffijnkmdgaa
