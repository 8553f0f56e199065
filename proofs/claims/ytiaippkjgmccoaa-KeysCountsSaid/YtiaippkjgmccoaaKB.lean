/- What functions of the program compute, and that they do. -/
import Derived.Test.YtiaippkjgmccoaaKA
set_option linter.unusedVariables false
set_option linter.unusedSimpArgs false
set_option maxRecDepth 100000
set_option maxHeartbeats 4000000
namespace Go.Proofs.Ytiaippkjgmccoaa
open Go Go.Cl
noncomputable section
def e93 (x : ((Int × Bool) × (Int × Bool))) : List Value := [.int .i64 x.1.1, .bool x.1.2, .int .i64 x.2.1, .bool x.2.2]
def e55 (x : (Int × Bool)) : List Value := [.int .i64 x.1, .bool x.2]
def e3 (x : Int) : List Value := [.int .i64 x]
noncomputable def c65 : Code := Try.f65.code
def H65_0 (p1 : (List ((Int × Bool) × (Int × Bool)))) (p0 : Int) (p2 : Int) (p3 : Bool) : List Blk := [ab 93 e93 p1, cl 30 [iv p0, sv 0 p1.length ANY], cl 55 [iv p2, .bool p3]]
def F65 (p0 : Int) (p1 : (List ((Int × Bool) × (Int × Bool)))) (p2 : Int) (p3 : Bool) : Option Bool :=
 (
  if decide (p2 ≥ 0) then
   some (decide (p2 < p0))
  else
   some (false)
 : Option Bool) >>= fun m2 =>
 some m2
def V65 (b : Nat) (r : Bool) : Value := .bool r
def N65 (b : Nat) (r : Bool) : List Blk := []
theorem B65 (p0 : Int) (p1 : (List ((Int × Bool) × (Int × Bool)))) (p2 : Int) (p3 : Bool) (r : Bool) (hF : F65 p0 p1 p2 p3 = some r) : TS Try.prog 1 1 c65 (st 15 [(0, ag [iv p0, sv 0 p1.length ANY]), (1, ag [iv p2, .bool p3])]) [ab 93 e93 p1] (NX Try.prog 1 1 [] (FinP Try.prog Try.f65 1 (V65 1 r) (N65 1 r))) := by
 unfold F65 at hF
 refine TS.sq (TS.rg (TI.rn 3 [2, 3] [0, 1, 2] (st 15 [(2, pt 1 0), (3, pt 2 0)]) (H65_0 p1 p0 p2 p3) (TI.dn (NX.sq (TS.sq ?_)))))
 have hX := of_do hF
 clear hF
 obtain ⟨m2, hm3, hF⟩ := hX
 have hK : NX Try.prog 1 1 [.sq c65.s2.s2] (FinP Try.prog Try.f65 1 (V65 1 r) (N65 1 r)) .normal (st 15 [(4, .bool m2)]) [ab 93 e93 p1, .dead, .dead] := by
  refine NX.sq (TS.rt ?_)
  have hF := Option.some.inj hF
  subst hF
  exact ⟨.inr rfl, rfl, .bool m2, by kernel_rfl, WkV.flat0 (by kernel_rfl) (Nat.le_of_ble_eq_true rfl)⟩
 rcases Bool.eq_false_or_eq_true (decide (p2 ≥ 0)) with hc1 | hc1
 · replace hm3 := of_pos hm3 hc1
   have hm3 := Option.some.inj hm3
   subst hm3
   exact TS.rg (TI.ra 2 [2, 3, 6] (st 15 [(2, pt 1 0), (3, pt 2 0), (6, iv p2)]) (TI.o { val := .bool true } (q_conv (e := decide (p2 ≥ 0)) (b := true) (by kernel_rfl) hc1) [2, 3, 7] [0, 1, 2] (st 15 [(2, pt 1 0), (3, pt 2 0), (7, .bool true)]) (H65_0 p1 p0 p2 p3) (TI.rn 8 [4] [0] (st 15 [(4, .bool (decide (p2 < p0)))]) [ab 93 e93 p1, .dead, .dead] (TI.dn hK))))
 replace hm3 := of_neg hm3 hc1
 have hm3 := Option.some.inj hm3
 subst hm3
 exact TS.rg (TI.ra 2 [2, 3, 6] (st 15 [(2, pt 1 0), (3, pt 2 0), (6, iv p2)]) (TI.o { val := .bool false } (q_conv (e := decide (p2 ≥ 0)) (b := false) (by kernel_rfl) hc1) [2, 3, 7] [0, 1, 2] (st 15 [(2, pt 1 0), (3, pt 2 0), (7, .bool false)]) (H65_0 p1 p0 p2 p3) (TI.rn 8 [4] [0] (st 15 [(4, .bool false)]) [ab 93 e93 p1, .dead, .dead] (TI.dn hK))))
theorem C65 (p0 : Int) (p1 : (List ((Int × Bool) × (Int × Bool)))) (p2 : Int) (p3 : Bool) (r : Bool) (hF : F65 p0 p1 p2 p3 = some r) : PureSim Try.prog 65 [ag [iv p0, sv 0 p1.length ANY], ag [iv p2, .bool p3]] [ab 93 e93 p1] (V65 1 r) (N65 1 r) :=
 PureSim.of_Fin Try.func65 (c := c65) (by kernel_rfl) (by kernel_rfl) 1 rfl [0, 1] [0] (by kernel_rfl) (B65 p0 p1 p2 p3 r hF)
noncomputable def c27 : Code := Try.f27.code
def S27_0 (v15 : Int) (p1 : (List ((Int × Bool) × (Int × Bool)))) (p0 : Int) : CAct := (st 43 [(1, pt 1 0), (3, iv v15), (20, .bool (decide (v15 < (p1.length : Int)))), (23, ag [iv p0, sv 0 p1.length ANY]), (24, pt 1 1), (25, sv 0 p1.length ANY), (26, iv v15), (27, .pointer (some ⟨0, 0 + (Int.toNat v15) * 4, none⟩)), (28, .pointer (some ⟨0, 0 + (Int.toNat v15) * 4, none⟩))])
def S27_1 (v15 : Int) (p1 : (List ((Int × Bool) × (Int × Bool)))) (p0 : Int) : CAct := (st 43 [(1, pt 1 0), (3, iv v15), (20, .bool (decide (v15 < (p1.length : Int)))), (23, ag [iv p0, sv 0 p1.length ANY]), (24, pt 1 1), (25, sv 0 p1.length ANY), (26, iv v15)])
def H27_2 (p1 : (List ((Int × Bool) × (Int × Bool)))) (p0 : Int) : List Blk := [ab 93 e93 p1, cl 30 [iv p0, sv 0 p1.length ANY]]
def F27l0 (p0 : Int) (p1 : (List ((Int × Bool) × (Int × Bool)))) (v15 : Int) : Option (Unit ⊕ Unit) :=
 if decide (v15 < (p1.length : Int)) then
  if (0 : Int) ≤ v15 ∧ v15 < (p1.length : Int) then
   some (List.getD p1 (Int.toNat v15) ((0, false), (0, false))) >>= fun o30 =>
   F65 p0 p1 o30.1.1 o30.1.2 >>= fun r32 =>
   (
    if !r32 then
     some (true)
    else
     F65 p0 p1 o30.2.1 o30.2.2 >>= fun r35 =>
     some (!r35)
   : Option Bool) >>= fun m37 =>
   if m37 then
    some (.inl ())
   else
    F27l0 p0 p1 (w64 (v15 + 1))
  else none
 else
  some (.inr ())
 partial_fixpoint
def F27 (p0 : Int) (p1 : (List ((Int × Bool) × (Int × Bool)))) : Option Int :=
 (
  if decide (p0 < 1) then
   some (true)
  else
   some (decide (p0 > 24))
 : Option Bool) >>= fun m2 =>
 if m2 then
  some 1
 else
  if decide ((p1.length : Int) > 80) then
   some 3
  else
   F27l0 p0 p1 0 >>= fun r39 =>
   match r39 with
   | .inl o41 =>
    some 6
   | .inr o42 =>
    some 0
def V27 (b : Nat) (r : Int) : Value := iv r
def N27 (b : Nat) (r : Int) : List Blk := []
def P27l0 (p0 : Int) (p1 : (List ((Int × Bool) × (Int × Bool)))) (r : (Unit ⊕ Unit)) : Post := fun e a h => (match r with | .inl q0 => e = .ret ∧ Wk Try.prog 1 1 a h (st 43 [(2, iv 6)]) [ab 93 e93 p1] | .inr q0 => e = .exit 0 ∧ Wk Try.prog 1 1 a h (st 43 []) [ab 93 e93 p1])
theorem L27l0 (p0 : Int) (p1 : (List ((Int × Bool) × (Int × Bool)))) (v15 : Int) (r : (Unit ⊕ Unit)) (hF : F27l0 p0 p1 v15 = some r) : TL Try.prog 1 1 c27.s2.s2.s2.s1.s2.bd.bd (st 43 [(1, pt 1 0), (3, iv v15)]) (H27_2 p1 p0) (P27l0 p0 p1 r) := by
 refine F27l0.partial_correctness p0 p1 (motive := fun v15 r => TL Try.prog 1 1 c27.s2.s2.s2.s1.s2.bd.bd (st 43 [(1, pt 1 0), (3, iv v15)]) (H27_2 p1 p0) (P27l0 p0 p1 r)) ?_ v15 r hF
 clear hF r v15
 intro again ih v15 r hF
 refine TL.round (TS.sq (TS.sq (TS.rg (TI.ra 5 [1, 3, 20] (st 43 [(1, pt 1 0), (3, iv v15), (20, .bool (decide (v15 < (p1.length : Int))))]) (TI.dn (NX.sq ?_))))))
 refine TS.cd (.tmp 20) (decide (v15 < (p1.length : Int))) (fun hc28 => ?_) (fun hc28 => ?_)
 · replace hF := of_pos hF hc28
   refine TS.sk (NX.sq (TS.sq (TS.bk 1 (TS.sq ?_))))
   have hX := of_guard hF
   clear hF
   obtain ⟨hg29, hF⟩ := hX
   have hX := of_do hF
   clear hF
   obtain ⟨o30, h31, hF⟩ := hX
   replace h31 := Option.some.inj h31
   have hX := of_do hF
   clear hF
   obtain ⟨r32, h33, hF⟩ := hX
   have hX := of_do hF
   clear hF
   obtain ⟨m37, hm38, hF⟩ := hX
   have hK : NX Try.prog 1 1 [.sq c27.s2.s2.s2.s1.s2.bd.bd.s2.s1.bd.s2, .bk 1, .sq c27.s2.s2.s2.s1.s2.bd.bd.s2.s2] (Rd Try.prog 1 1 c27.s2.s2.s2.s1.s2.bd.bd (P27l0 p0 p1 r)) .normal (st 43 [(1, pt 1 0), (3, iv v15), (42, .bool m37)]) (H27_2 p1 p0) := by
    refine NX.sq ?_
    cases m37 with
    | true =>
     replace hF := of_pos hF rfl
     refine TS.cdT (.tmp 42) (TS.sq (TS.rg (TI.rn 1 [2] [0] (st 43 [(2, iv 6)]) [ab 93 e93 p1, .dead] (TI.dn (NX.sq (TS.rt (NX.bkR (NX.sqR ?_))))))))
     have hF := Option.some.inj hF
     subst hF
     exact Rd.out (e := .ret) (by intro h; cases h) (And.intro rfl (Wk.an [] (.ac (.nil _)) [iv 6] (.fl .nil)))
    | false =>
     replace hF := of_neg hF rfl
     refine TS.cdF (.tmp 42) (TS.sk (NX.bk (NX.sq (TS.rg (TI.ra 3 [1, 3] (st 43 [(1, pt 1 0), (3, iv (w64 (v15 + 1)))]) (TI.dn ?_))))))
     exact Rd.again (a2 := (st 43 [(1, pt 1 0), (3, iv (w64 (v15 + 1)))])) (h2 := (H27_2 p1 p0)) (Wk.an [1] (.ac (.lt (.fl (.sl .nil)) (.nil _))) [pt 1 0, iv (w64 (v15 + 1))] (.pp (.fl .nil))) (ih (w64 (v15 + 1)) _ hF)
   rcases Bool.eq_false_or_eq_true (!r32) with hc34 | hc34
   · replace hm38 := of_pos hm38 hc34
     have hm38 := Option.some.inj hm38
     subst hm38
     have hT : ∀ e ∈ ([⟨65, [ag [iv p0, sv 0 p1.length ANY], ag [iv o30.1.1, .bool o30.1.2]], (H27_2 p1 p0), .bool r32, []⟩] : List Entry), PureSim Try.prog e.g e.args e.h e.v e.new := by
      intro e he
      simp only [List.mem_cons, List.not_mem_nil, or_false] at he
      rcases he with rfl
      exact (PureSim.ren (hc := [ab 93 e93 p1]) (fun i => List.getD [(0, 0)] i (0, 0)) (C65 _ _ _ _ _ h33) (.ac (.nil _)) (.cons (Rn.agg' (.fl (.cons (Rn.any _ _ _ _ _ _ (Nat.le_of_ble_eq_true rfl) rfl rfl (by decide)) .nil))) (.fl .nil)) (.flat (by kernel_rfl)) newflat_nil)
     refine TS.dp [⟨65, [ag [iv p0, sv 0 p1.length ANY], ag [iv o30.1.1, .bool o30.1.2]], (H27_2 p1 p0), .bool r32, []⟩] hT mixed 17 [1, 3, 42] [0, 1] (st 43 [(1, pt 1 0), (3, iv v15), (42, .bool true)]) (H27_2 p1 p0) ?_ ?_
     · refine QJ.rn (qs (S27_1 v15 p1 p0) (H27_2 p1 p0) [] []) 4 (QJ.o { val := .pointer (some ⟨0, 0 + (Int.toNat v15) * 4, none⟩) } (q_ixS 0 0 ((Int.toNat v15) * 4) (by kernel_rfl) hg29) (QJ.rn (qs (S27_0 v15 p1 p0) (H27_2 p1 p0) [] []) 1 ?_))
       exact QJ.o { val := ag [iv o30.1.1, .bool o30.1.2] } (q_eqv (q_ldPW (P := Try.prog) (hp := (H27_2 p1 p0)) (t := 55) (b := 0) (o := 0 + (Int.toNat v15) * 4) (off := 0) (L := p1) (ys := p1) (enc := e93) (s := 4) (T := 93) (i := Int.toNat v15) (k := 0) (m := 2) win_all (holds_acc (hp := (H27_2 p1 p0)) (b := 0) (T := 93) (enc := e93) (L := p1) (by kernel_rfl)) (by kernel_rfl) (by kernel_rfl) (by kernel_rfl) (fun _ => rfl) rfl (by decide) (by first | omega | (simp <;> omega)) ((0, false), (0, false))) (congrArg (fun (z : ((Int × Bool) × (Int × Bool))) => ({ val := ag [iv z.1.1, .bool z.1.2] } : QRes)) h31)) (QJ.o { val := .bool r32, new := [] } (qOf_call (g := 65) (args := [ag [iv p0, sv 0 p1.length ANY], ag [iv o30.1.1, .bool o30.1.2]]) (by kernel_rfl) lookC_hit) (QJ.o { val := .bool true } (q_conv (e := !r32) (b := true) (by kernel_rfl) hc34) (QJ.rn (qs (st 43 [(1, pt 1 0), (3, iv v15), (20, .bool (decide (v15 < (p1.length : Int)))), (23, ag [iv p0, sv 0 p1.length ANY]), (24, pt 1 1), (25, sv 0 p1.length ANY), (26, iv v15), (27, .pointer (some ⟨0, 0 + (Int.toNat v15) * 4, none⟩)), (28, .pointer (some ⟨0, 0 + (Int.toNat v15) * 4, none⟩)), (29, ag [iv o30.1.1, .bool o30.1.2]), (30, .bool r32), (31, .bool true), (32, .bool true), (33, undef), (34, undef), (35, undef), (36, undef), (37, undef), (38, undef), (39, undef)]) (H27_2 p1 p0) [] []) 8 (QJ.dn ⟨rfl, SJ.la⟩))))
     exact hK
   replace hm38 := of_neg hm38 hc34
   have hX := of_do hm38
   clear hm38
   obtain ⟨r35, h36, hm38⟩ := hX
   have hm38 := Option.some.inj hm38
   subst hm38
   have hT : ∀ e ∈ ([⟨65, [ag [iv p0, sv 0 p1.length ANY], ag [iv o30.1.1, .bool o30.1.2]], (H27_2 p1 p0), .bool r32, []⟩, ⟨65, [ag [iv p0, sv 0 p1.length ANY], ag [iv o30.2.1, .bool o30.2.2]], (H27_2 p1 p0), .bool r35, []⟩] : List Entry), PureSim Try.prog e.g e.args e.h e.v e.new := by
    intro e he
    simp only [List.mem_cons, List.not_mem_nil, or_false] at he
    rcases he with rfl | rfl
    · exact (PureSim.ren (hc := [ab 93 e93 p1]) (fun i => List.getD [(0, 0)] i (0, 0)) (C65 _ _ _ _ _ h33) (.ac (.nil _)) (.cons (Rn.agg' (.fl (.cons (Rn.any _ _ _ _ _ _ (Nat.le_of_ble_eq_true rfl) rfl rfl (by decide)) .nil))) (.fl .nil)) (.flat (by kernel_rfl)) newflat_nil)
    exact (PureSim.ren (hc := [ab 93 e93 p1]) (fun i => List.getD [(0, 0)] i (0, 0)) (C65 _ _ _ _ _ h36) (.ac (.nil _)) (.cons (Rn.agg' (.fl (.cons (Rn.any _ _ _ _ _ _ (Nat.le_of_ble_eq_true rfl) rfl rfl (by decide)) .nil))) (.fl .nil)) (.flat (by kernel_rfl)) newflat_nil)
   refine TS.dp [⟨65, [ag [iv p0, sv 0 p1.length ANY], ag [iv o30.1.1, .bool o30.1.2]], (H27_2 p1 p0), .bool r32, []⟩, ⟨65, [ag [iv p0, sv 0 p1.length ANY], ag [iv o30.2.1, .bool o30.2.2]], (H27_2 p1 p0), .bool r35, []⟩] hT mixed 17 [1, 3, 42] [0, 1] (st 43 [(1, pt 1 0), (3, iv v15), (42, .bool (!r35))]) (H27_2 p1 p0) ?_ ?_
   · refine QJ.rn (qs (S27_1 v15 p1 p0) (H27_2 p1 p0) [] []) 4 (QJ.o { val := .pointer (some ⟨0, 0 + (Int.toNat v15) * 4, none⟩) } (q_ixS 0 0 ((Int.toNat v15) * 4) (by kernel_rfl) hg29) (QJ.rn (qs (S27_0 v15 p1 p0) (H27_2 p1 p0) [] []) 1 ?_))
     refine QJ.o { val := ag [iv o30.1.1, .bool o30.1.2] } (q_eqv (q_ldPW (P := Try.prog) (hp := (H27_2 p1 p0)) (t := 55) (b := 0) (o := 0 + (Int.toNat v15) * 4) (off := 0) (L := p1) (ys := p1) (enc := e93) (s := 4) (T := 93) (i := Int.toNat v15) (k := 0) (m := 2) win_all (holds_acc (hp := (H27_2 p1 p0)) (b := 0) (T := 93) (enc := e93) (L := p1) (by kernel_rfl)) (by kernel_rfl) (by kernel_rfl) (by kernel_rfl) (fun _ => rfl) rfl (by decide) (by first | omega | (simp <;> omega)) ((0, false), (0, false))) (congrArg (fun (z : ((Int × Bool) × (Int × Bool))) => ({ val := ag [iv z.1.1, .bool z.1.2] } : QRes)) h31)) (QJ.o { val := .bool r32, new := [] } (qOf_call (g := 65) (args := [ag [iv p0, sv 0 p1.length ANY], ag [iv o30.1.1, .bool o30.1.2]]) (by kernel_rfl) lookC_hit) (QJ.o { val := .bool false } (q_conv (e := !r32) (b := false) (by kernel_rfl) hc34) (QJ.rn (qs (st 43 [(1, pt 1 0), (3, iv v15), (20, .bool (decide (v15 < (p1.length : Int)))), (23, ag [iv p0, sv 0 p1.length ANY]), (24, pt 1 1), (25, sv 0 p1.length ANY), (26, iv v15), (27, .pointer (some ⟨0, 0 + (Int.toNat v15) * 4, none⟩)), (28, .pointer (some ⟨0, 0 + (Int.toNat v15) * 4, none⟩)), (29, ag [iv o30.1.1, .bool o30.1.2]), (30, .bool r32), (31, .bool false), (32, .bool false), (33, ag [iv p0, sv 0 p1.length ANY]), (34, pt 1 1), (35, sv 0 p1.length ANY), (36, iv v15)]) (H27_2 p1 p0) [] []) 5 (QJ.o { val := .pointer (some ⟨0, 0 + (Int.toNat v15) * 4, none⟩) } (q_ixS 0 0 ((Int.toNat v15) * 4) (by kernel_rfl) hg29) (QJ.rn (qs (st 43 [(1, pt 1 0), (3, iv v15), (20, .bool (decide (v15 < (p1.length : Int)))), (23, ag [iv p0, sv 0 p1.length ANY]), (24, pt 1 1), (25, sv 0 p1.length ANY), (26, iv v15), (27, .pointer (some ⟨0, 0 + (Int.toNat v15) * 4, none⟩)), (28, .pointer (some ⟨0, 0 + (Int.toNat v15) * 4, none⟩)), (29, ag [iv o30.1.1, .bool o30.1.2]), (30, .bool r32), (31, .bool false), (32, .bool false), (33, ag [iv p0, sv 0 p1.length ANY]), (34, pt 1 1), (35, sv 0 p1.length ANY), (36, iv v15), (37, .pointer (some ⟨0, 0 + (Int.toNat v15) * 4, none⟩)), (38, .pointer (some ⟨0, 0 + (Int.toNat v15) * 4 + 2, none⟩))]) (H27_2 p1 p0) [] []) 1 ?_)))))
     refine QJ.o { val := ag [iv o30.2.1, .bool o30.2.2] } (q_eqv (q_ldPW (P := Try.prog) (hp := (H27_2 p1 p0)) (t := 55) (b := 0) (o := 0 + (Int.toNat v15) * 4 + 2) (off := 0) (L := p1) (ys := p1) (enc := e93) (s := 4) (T := 93) (i := Int.toNat v15) (k := 2) (m := 2) win_all (holds_acc (hp := (H27_2 p1 p0)) (b := 0) (T := 93) (enc := e93) (L := p1) (by kernel_rfl)) (by kernel_rfl) (by kernel_rfl) (by kernel_rfl) (fun _ => rfl) rfl (by decide) (by first | omega | (simp <;> omega)) ((0, false), (0, false))) (congrArg (fun (z : ((Int × Bool) × (Int × Bool))) => ({ val := ag [iv z.2.1, .bool z.2.2] } : QRes)) h31)) (QJ.dn ⟨rfl, ?_⟩)
     exact SJ.o { val := .bool r35, new := [] } (qOf_call (g := 65) (args := [ag [iv p0, sv 0 p1.length ANY], ag [iv o30.2.1, .bool o30.2.2]]) (by kernel_rfl) (lookC_skip (by intro _ ha hh; first | (exact absurd (congrArg List.length hh) (Nat.ne_of_beq_eq_false rfl)) | (have hq := h33; have hi := h36; clear hF; first | (exfalso; simp at ha; done) | ((try simp at ha); have hr := Option.some.inj (hq.symm.trans (Eq.trans (by first | rfl | (congr 1 <;> first | rfl | omega | simp_all)) hi)); subst hr; rfl))) lookC_hit)) SJ.la
   exact hK
 replace hF := of_neg hF hc28
 refine TS.ex 0 (NX.sqX ?_)
 have hF := Option.some.inj hF
 subst hF
 exact Rd.out (e := .exit 0) (by intro h; cases h) (And.intro rfl (Wk.an [] (.ac (.nil _)) [] .nil))
theorem B27 (p0 : Int) (p1 : (List ((Int × Bool) × (Int × Bool)))) (r : Int) (hF : F27 p0 p1 = some r) : TS Try.prog 1 1 c27 (st 43 [(0, ag [iv p0, sv 0 p1.length ANY])]) [ab 93 e93 p1] (NX Try.prog 1 1 [] (FinP Try.prog Try.f27 1 (V27 1 r) (N27 1 r))) := by
 unfold F27 at hF
 refine TS.sq (TS.rg (TI.rn 2 [1] [0, 1] (st 43 [(1, pt 1 0)]) (H27_2 p1 p0) (TI.dn (NX.sq (TS.sq (TS.sq ?_))))))
 have hX := of_do hF
 clear hF
 obtain ⟨m2, hm43, hF⟩ := hX
 have hK : NX Try.prog 1 1 [.sq c27.s2.s1.s2, .sq c27.s2.s2] (FinP Try.prog Try.f27 1 (V27 1 r) (N27 1 r)) .normal (st 43 [(1, pt 1 0), (11, .bool m2)]) (H27_2 p1 p0) := by
  refine NX.sq ?_
  cases m2 with
  | true =>
   replace hF := of_pos hF rfl
   refine TS.cdT (.tmp 11) (TS.sq (TS.rg (TI.rn 1 [2] [0] (st 43 [(2, iv 1)]) [ab 93 e93 p1, .dead] (TI.dn (NX.sq (TS.rt (NX.sqR ?_)))))))
   have hF := Option.some.inj hF
   subst hF
   exact ⟨.inr rfl, rfl, iv 1, by kernel_rfl, WkV.flat0 (by kernel_rfl) (Nat.le_of_ble_eq_true rfl)⟩
  | false =>
   replace hF := of_neg hF rfl
   refine TS.cdF (.tmp 11) (TS.sk (NX.sq (TS.sq (TS.sq (TS.rg (TI.ra 4 [1, 15] (st 43 [(1, pt 1 0), (15, .bool (decide ((p1.length : Int) > 80)))]) (TI.dn (NX.sq ?_))))))))
   refine TS.cd (.tmp 15) (decide ((p1.length : Int) > 80)) (fun hc3 => ?_) (fun hc3 => ?_)
   · replace hF := of_pos hF hc3
     refine TS.sq (TS.rg (TI.rn 1 [2] [0] (st 43 [(2, iv 3)]) [ab 93 e93 p1, .dead] (TI.dn (NX.sq (TS.rt (NX.sqR ?_))))))
     have hF := Option.some.inj hF
     subst hF
     exact ⟨.inr rfl, rfl, iv 3, by kernel_rfl, WkV.flat0 (by kernel_rfl) (Nat.le_of_ble_eq_true rfl)⟩
   replace hF := of_neg hF hc3
   refine TS.sk (NX.sq (TS.sq (TS.sq (TS.rg (TI.ra 1 [1, 3] (st 43 [(1, pt 1 0), (3, iv 0)]) (TI.dn (NX.sq (TS.bk 0 ?_))))))))
   have hX := of_do hF
   clear hF
   obtain ⟨r39, h40, hF⟩ := hX
   refine TS.lp (TL.weak (a2 := (st 43 [(1, pt 1 0), (3, iv 0)])) (h2 := (H27_2 p1 p0)) (Wk.an [1] (.ac (.lt (.fl (.sl .nil)) (.nil _))) [pt 1 0, iv 0] (.pp (.fl .nil))) (TL.post (L27l0 p0 p1 0 r39 h40) ?_))
   rintro e a1 h1 hp
   rcases r39 with o41 | o42
   · skip
     obtain ⟨rfl, hw⟩ := hp
     refine ⟨(st 43 [(2, iv 6)]), [ab 93 e93 p1], (NX.bkR (NX.sqR ?_)), hw⟩
     have hF := Option.some.inj hF
     subst hF
     exact ⟨.inr rfl, rfl, iv 6, by kernel_rfl, WkV.flat0 (by kernel_rfl) (Nat.le_of_ble_eq_true rfl)⟩
   skip
   obtain ⟨rfl, hw⟩ := hp
   refine ⟨(st 43 []), [ab 93 e93 p1], (NX.bkX (NX.sq (TS.sq (TS.rg (TI.ra 1 [2] (st 43 [(2, iv 0)]) (TI.dn (NX.sq (TS.rt ?_)))))))), hw⟩
   have hF := Option.some.inj hF
   subst hF
   exact ⟨.inr rfl, rfl, iv 0, by kernel_rfl, WkV.flat0 (by kernel_rfl) (Nat.le_of_ble_eq_true rfl)⟩
 rcases Bool.eq_false_or_eq_true (decide (p0 < 1)) with hc1 | hc1
 · replace hm43 := of_pos hm43 hc1
   have hm43 := Option.some.inj hm43
   subst hm43
   exact TS.rg (TI.ra 2 [1, 5] (st 43 [(1, pt 1 0), (5, iv p0)]) (TI.o { val := .bool true } (q_conv (e := decide (p0 < 1)) (b := true) (by kernel_rfl) hc1) [1, 6] [0, 1] (st 43 [(1, pt 1 0), (6, .bool true)]) (H27_2 p1 p0) (TI.ra 5 [1, 11] (st 43 [(1, pt 1 0), (11, .bool true)]) (TI.dn hK))))
 replace hm43 := of_neg hm43 hc1
 have hm43 := Option.some.inj hm43
 subst hm43
 exact TS.rg (TI.ra 2 [1, 5] (st 43 [(1, pt 1 0), (5, iv p0)]) (TI.o { val := .bool false } (q_conv (e := decide (p0 < 1)) (b := false) (by kernel_rfl) hc1) [1, 6] [0, 1] (st 43 [(1, pt 1 0), (6, .bool false)]) (H27_2 p1 p0) (TI.ra 5 [1, 11] (st 43 [(1, pt 1 0), (11, .bool (decide (p0 > 24)))]) (TI.dn hK))))
theorem C27 (p0 : Int) (p1 : (List ((Int × Bool) × (Int × Bool)))) (r : Int) (hF : F27 p0 p1 = some r) : PureSim Try.prog 27 [ag [iv p0, sv 0 p1.length ANY]] [ab 93 e93 p1] (V27 1 r) (N27 1 r) :=
 PureSim.of_Fin Try.func27 (c := c27) (by kernel_rfl) (by kernel_rfl) 1 rfl [0] [0] (by kernel_rfl) (B27 p0 p1 r hF)
noncomputable def c16 : Code := Try.f16.code
def S16_0 (v5 : Int) (p1 : (List ((Int × Bool) × (Int × Bool)))) (v6 : (List ((Int × Bool) × (Int × Bool)))) (o16 : ((Int × Bool) × (Int × Bool))) : CAct := (st 34 [(1, pt 1 0), (2, pt 2 0), (3, pt 3 0), (4, iv v5), (12, .bool (decide (v5 < (p1.length : Int)))), (15, pt 3 1), (16, accV 4 v6.length), (17, pt 1 1), (18, sv 0 p1.length ANY), (19, iv v5), (20, .pointer (some ⟨0, 0 + (Int.toNat v5) * 4, none⟩)), (21, .pointer (some ⟨0, 0 + (Int.toNat v5) * 4, none⟩)), (22, ag [iv o16.1.1, .bool o16.1.2]), (23, pt 1 1), (24, sv 0 p1.length ANY), (25, iv v5), (26, .pointer (some ⟨0, 0 + (Int.toNat v5) * 4, none⟩)), (27, .pointer (some ⟨0, 0 + (Int.toNat v5) * 4 + 2, none⟩)), (28, ag [iv o16.2.1, .bool o16.2.2]), (29, ag [iv o16.1.1, .bool o16.1.2, iv o16.2.1, .bool o16.2.2]), (30, sv 5 1 1)])
def H16_1 (p1 : (List ((Int × Bool) × (Int × Bool)))) (p0 : Int) (v6 : (List ((Int × Bool) × (Int × Bool)))) (o16 : ((Int × Bool) × (Int × Bool))) : List Blk := [ab 86 e86 p1, cl 24 [iv p0, sv 0 p1.length ANY], cl 30 [iv 0, .slice none 0 0], cl 30 [iv p0, accV 4 v6.length], ab 93 e93 v6, cl 93 [iv o16.1.1, .bool o16.1.2, iv o16.2.1, .bool o16.2.2]]
def H16_2 (p1 : (List ((Int × Bool) × (Int × Bool)))) (p0 : Int) (v6 : (List ((Int × Bool) × (Int × Bool)))) : List Blk := [ab 86 e86 p1, cl 24 [iv p0, sv 0 p1.length ANY], cl 30 [iv 0, .slice none 0 0], cl 30 [iv p0, accV 4 v6.length], ab 93 e93 v6]
def F16l0 (p0 : Int) (p1 : (List ((Int × Bool) × (Int × Bool)))) (v5 : Int) (v6 : (List ((Int × Bool) × (Int × Bool)))) : Option (List ((Int × Bool) × (Int × Bool))) :=
 if decide (v5 < (p1.length : Int)) then
  if (0 : Int) ≤ v5 ∧ v5 < (p1.length : Int) then
   some (List.getD p1 (Int.toNat v5) ((0, false), (0, false))) >>= fun o16 =>
   if List.length v6 ≤ 1000000000 then
    F16l0 p0 p1 (w64 (v5 + 1)) (v6 ++ [((o16.1.1, o16.1.2), (o16.2.1, o16.2.2))])
   else none
  else none
 else
  some v6
 partial_fixpoint
def F16 (p0 : Int) (p1 : (List ((Int × Bool) × (Int × Bool)))) : Option (Int × (List ((Int × Bool) × (Int × Bool)))) :=
 F16l0 p0 p1 0 ([]) >>= fun r19 =>
 some (p0, r19)
def V16 (b : Nat) (r : (Int × (List ((Int × Bool) × (Int × Bool))))) : Value := ag [iv r.1, accV (b + 0) r.2.length]
def N16 (b : Nat) (r : (Int × (List ((Int × Bool) × (Int × Bool))))) : List Blk := [ab 93 e93 r.2]
def P16l0 (p0 : Int) (p1 : (List ((Int × Bool) × (Int × Bool)))) (r : (List ((Int × Bool) × (Int × Bool)))) : Post := fun e a h => e = .exit 0 ∧ Wk Try.prog 1 1 a h (st 34 [(2, pt 1 0), (3, pt 2 0)]) [ab 86 e86 p1, cl 30 [iv 0, .slice none 0 0], cl 30 [iv p0, accV 3 r.length], ab 93 e93 r]
theorem L16l0 (p0 : Int) (p1 : (List ((Int × Bool) × (Int × Bool)))) (v5 : Int) (v6 : (List ((Int × Bool) × (Int × Bool)))) (r : (List ((Int × Bool) × (Int × Bool)))) (hF : F16l0 p0 p1 v5 v6 = some r) : TL Try.prog 1 1 c16.s2.s2.s1.s2.bd.bd (st 34 [(1, pt 1 0), (2, pt 2 0), (3, pt 3 0), (4, iv v5)]) (H16_2 p1 p0 v6) (P16l0 p0 p1 r) := by
 refine F16l0.partial_correctness p0 p1 (motive := fun v5 v6 r => TL Try.prog 1 1 c16.s2.s2.s1.s2.bd.bd (st 34 [(1, pt 1 0), (2, pt 2 0), (3, pt 3 0), (4, iv v5)]) (H16_2 p1 p0 v6) (P16l0 p0 p1 r)) ?_ v5 v6 r hF
 clear hF r v5 v6
 intro again ih v5 v6 r hF
 refine TL.round (TS.sq (TS.sq (TS.rg (TI.ra 5 [1, 2, 3, 4, 12] (st 34 [(1, pt 1 0), (2, pt 2 0), (3, pt 3 0), (4, iv v5), (12, .bool (decide (v5 < (p1.length : Int))))]) (TI.dn (NX.sq ?_))))))
 refine TS.cd (.tmp 12) (decide (v5 < (p1.length : Int))) (fun hc14 => ?_) (fun hc14 => ?_)
 · replace hF := of_pos hF hc14
   refine TS.sk (NX.sq (TS.sq (TS.bk 1 ?_)))
   have hX := of_guard hF
   clear hF
   obtain ⟨hg15, hF⟩ := hX
   have hX := of_do hF
   clear hF
   obtain ⟨o16, h17, hF⟩ := hX
   replace h17 := Option.some.inj h17
   have hX := of_guard hF
   clear hF
   obtain ⟨hg18, hF⟩ := hX
   refine TS.drawT [] (fun e he => by cases he) mixed 16 [] (S16_0 v5 p1 v6 o16) (H16_1 p1 p0 v6 o16) ?_ ?_
   · refine QJ.rn (qs (st 34 [(1, pt 1 0), (2, pt 2 0), (3, pt 3 0), (4, iv v5), (12, .bool (decide (v5 < (p1.length : Int)))), (15, pt 3 1), (16, accV 4 v6.length), (17, pt 1 1), (18, sv 0 p1.length ANY), (19, iv v5)]) (H16_2 p1 p0 v6) [] []) 5 (QJ.o { val := .pointer (some ⟨0, 0 + (Int.toNat v5) * 4, none⟩) } (q_ixS 0 0 ((Int.toNat v5) * 4) (by kernel_rfl) hg15) (QJ.rn (qs (st 34 [(1, pt 1 0), (2, pt 2 0), (3, pt 3 0), (4, iv v5), (12, .bool (decide (v5 < (p1.length : Int)))), (15, pt 3 1), (16, accV 4 v6.length), (17, pt 1 1), (18, sv 0 p1.length ANY), (19, iv v5), (20, .pointer (some ⟨0, 0 + (Int.toNat v5) * 4, none⟩)), (21, .pointer (some ⟨0, 0 + (Int.toNat v5) * 4, none⟩))]) (H16_2 p1 p0 v6) [] []) 1 ?_))
     refine QJ.o { val := ag [iv o16.1.1, .bool o16.1.2] } (q_eqv (q_ldPW (P := Try.prog) (hp := (H16_2 p1 p0 v6)) (t := 50) (b := 0) (o := 0 + (Int.toNat v5) * 4) (off := 0) (L := p1) (ys := p1) (enc := e86) (s := 4) (T := 86) (i := Int.toNat v5) (k := 0) (m := 2) win_all (holds_acc (hp := (H16_2 p1 p0 v6)) (b := 0) (T := 86) (enc := e86) (L := p1) (by kernel_rfl)) (by kernel_rfl) (by kernel_rfl) (by kernel_rfl) (fun _ => rfl) rfl (by decide) (by first | omega | (simp <;> omega)) ((0, false), (0, false))) (congrArg (fun (z : ((Int × Bool) × (Int × Bool))) => ({ val := ag [iv z.1.1, .bool z.1.2] } : QRes)) h17)) (QJ.rn (qs (st 34 [(1, pt 1 0), (2, pt 2 0), (3, pt 3 0), (4, iv v5), (12, .bool (decide (v5 < (p1.length : Int)))), (15, pt 3 1), (16, accV 4 v6.length), (17, pt 1 1), (18, sv 0 p1.length ANY), (19, iv v5), (20, .pointer (some ⟨0, 0 + (Int.toNat v5) * 4, none⟩)), (21, .pointer (some ⟨0, 0 + (Int.toNat v5) * 4, none⟩)), (22, ag [iv o16.1.1, .bool o16.1.2]), (23, pt 1 1), (24, sv 0 p1.length ANY), (25, iv v5)]) (H16_2 p1 p0 v6) [] []) 3 (QJ.o { val := .pointer (some ⟨0, 0 + (Int.toNat v5) * 4, none⟩) } (q_ixS 0 0 ((Int.toNat v5) * 4) (by kernel_rfl) hg15) (QJ.rn (qs (st 34 [(1, pt 1 0), (2, pt 2 0), (3, pt 3 0), (4, iv v5), (12, .bool (decide (v5 < (p1.length : Int)))), (15, pt 3 1), (16, accV 4 v6.length), (17, pt 1 1), (18, sv 0 p1.length ANY), (19, iv v5), (20, .pointer (some ⟨0, 0 + (Int.toNat v5) * 4, none⟩)), (21, .pointer (some ⟨0, 0 + (Int.toNat v5) * 4, none⟩)), (22, ag [iv o16.1.1, .bool o16.1.2]), (23, pt 1 1), (24, sv 0 p1.length ANY), (25, iv v5), (26, .pointer (some ⟨0, 0 + (Int.toNat v5) * 4, none⟩)), (27, .pointer (some ⟨0, 0 + (Int.toNat v5) * 4 + 2, none⟩))]) (H16_2 p1 p0 v6) [] []) 1 ?_)))
     exact QJ.o { val := ag [iv o16.2.1, .bool o16.2.2] } (q_eqv (q_ldPW (P := Try.prog) (hp := (H16_2 p1 p0 v6)) (t := 50) (b := 0) (o := 0 + (Int.toNat v5) * 4 + 2) (off := 0) (L := p1) (ys := p1) (enc := e86) (s := 4) (T := 86) (i := Int.toNat v5) (k := 2) (m := 2) win_all (holds_acc (hp := (H16_2 p1 p0 v6)) (b := 0) (T := 86) (enc := e86) (L := p1) (by kernel_rfl)) (by kernel_rfl) (by kernel_rfl) (by kernel_rfl) (fun _ => rfl) rfl (by decide) (by first | omega | (simp <;> omega)) ((0, false), (0, false))) (congrArg (fun (z : ((Int × Bool) × (Int × Bool))) => ({ val := ag [iv z.2.1, .bool z.2.2] } : QRes)) h17)) (QJ.rn (qs (S16_0 v5 p1 v6 o16) (H16_1 p1 p0 v6 o16) [(15, 5, 6)] []) 2 (QJ.dn ⟨by kernel_rfl, by kernel_rfl, by kernel_rfl⟩))
   refine TI.rn 0 [1, 2, 3, 4, 16, 30] [0, 1, 2, 3, 4, 5] (st 34 [(1, pt 1 0), (2, pt 2 0), (3, pt 3 0), (4, iv v5), (16, accV 4 v6.length), (30, sv 5 1 1)]) (H16_1 p1 p0 v6 o16) (TI.acc (l := v6) (b := 4) (ts := #[28, 28]) (e := 93) (bytes := 32) (z := ag [iv 0, .bool false, iv 0, .bool false]) (y := sv 5 1 1) (ys := [((o16.1.1, o16.1.2), (o16.2.1, o16.2.2))]) (xs := List.flatMap e93 ([((o16.1.1, o16.1.2), (o16.2.1, o16.2.2))])) (m := 1) (s := 4) (enc := e93) (by kernel_rfl) (by kernel_rfl) (by decide) (by kernel_rfl) (by kernel_rfl) (by kernel_rfl) (by kernel_rfl) (by kernel_rfl) (by kernel_rfl) (by kernel_rfl) (by kernel_rfl) (fun _ => rfl) rfl rfl (by omega) [1, 2, 3, 4, 31] [0, 1, 2, 3, 6] (a2 := (st 34 [(1, pt 1 0), (2, pt 2 0), (3, pt 3 0), (4, iv v5), (31, sv 6 (List.length (v6 ++ [((o16.1.1, o16.1.2), (o16.2.1, o16.2.2))])) UNK)])) (h2 := [ab 86 e86 p1, cl 24 [iv p0, sv 0 p1.length ANY], cl 30 [iv 0, .slice none 0 0], cl 30 [iv p0, accV 4 v6.length], .dead, .dead, .cells 93 (List.flatMap e93 (v6 ++ [((o16.1.1, o16.1.2), (o16.2.1, o16.2.2))]))]) (by kernel_rfl) (TI.rn 2 [1, 2, 3, 4] [0, 1, 2, 3, 6] (st 34 [(1, pt 1 0), (2, pt 2 0), (3, pt 3 0), (4, iv v5)]) [ab 86 e86 p1, cl 24 [iv p0, sv 0 p1.length ANY], cl 30 [iv 0, .slice none 0 0], cl 30 [iv p0, sv 6 (List.length (v6 ++ [((o16.1.1, o16.1.2), (o16.2.1, o16.2.2))])) UNK], .dead, .dead, .cells 93 (List.flatMap e93 (v6 ++ [((o16.1.1, o16.1.2), (o16.2.1, o16.2.2))]))] (TI.dn (NX.bk (NX.sq (TS.rg (TI.ra 3 [1, 2, 3, 4] (st 34 [(1, pt 1 0), (2, pt 2 0), (3, pt 3 0), (4, iv (w64 (v5 + 1)))]) (TI.dn ?_))))))))
   exact Rd.again (a2 := (st 34 [(1, pt 1 0), (2, pt 2 0), (3, pt 3 0), (4, iv (w64 (v5 + 1)))])) (h2 := [ab 86 e86 p1, cl 24 [iv p0, sv 0 p1.length ANY], cl 30 [iv 0, .slice none 0 0], cl 30 [iv p0, accV 4 (List.length (v6 ++ [((o16.1.1, o16.1.2), (o16.2.1, o16.2.2))]))], accB 93 (List.length (v6 ++ [((o16.1.1, o16.1.2), (o16.2.1, o16.2.2))])) (List.flatMap e93 (v6 ++ [((o16.1.1, o16.1.2), (o16.2.1, o16.2.2))]))]) (Wk.an [1, 2, 3, 6] (.ac (.lt (.fl (.sl .nil)) (.lt (.fl (.fl .nil)) (.lt (.fl (.cons (Rn.accU (Nat.le_of_ble_eq_true rfl) rfl (by simp)) .nil)) (.cons (At.accU (by kernel_rfl) rfl (fun _ => rfl)) (.nil _)))))) [pt 1 0, pt 2 0, pt 3 0, iv (w64 (v5 + 1))] (.pp (.pp (.pp (.fl .nil))))) (ih (w64 (v5 + 1)) (v6 ++ [((o16.1.1, o16.1.2), (o16.2.1, o16.2.2))]) _ hF)
 replace hF := of_neg hF hc14
 refine TS.ex 0 (NX.sqX ?_)
 have hF := Option.some.inj hF
 subst hF
 exact Rd.out (e := .exit 0) (by intro h; cases h) (And.intro rfl (Wk.an [2, 3, 4] (.ac (.lt (.fl (.fl .nil)) (.lt (.fl (.cons (Rn.acc (Nat.le_of_ble_eq_true rfl) rfl) .nil)) (.ac (.nil _))))) [pt 2 0, pt 3 0] (.pp (.pp .nil))))
theorem B16 (p0 : Int) (p1 : (List ((Int × Bool) × (Int × Bool)))) (r : (Int × (List ((Int × Bool) × (Int × Bool))))) (hF : F16 p0 p1 = some r) : TS Try.prog 1 1 c16 (st 34 [(0, ag [iv p0, sv 0 p1.length ANY])]) [ab 86 e86 p1] (NX Try.prog 1 1 [] (FinP Try.prog Try.f16 1 (V16 1 r) (N16 1 r))) := by
 unfold F16 at hF
 refine TS.sq (TS.rg (TI.rn 2 [1, 2] [0, 1, 2] (st 34 [(1, pt 1 0), (2, pt 2 0)]) [ab 86 e86 p1, cl 24 [iv p0, sv 0 p1.length ANY], cl 30 [iv 0, .slice none 0 0]] (TI.dn (NX.sq (TS.sq (TS.rg (TI.rn 5 [1, 2, 3] [0, 1, 2, 3] (st 34 [(1, pt 1 0), (2, pt 2 0), (3, pt 3 0)]) [ab 86 e86 p1, cl 24 [iv p0, sv 0 p1.length ANY], cl 30 [iv 0, .slice none 0 0], cl 30 [iv p0, .slice none 0 0]] (TI.dn ?_))))))))
 refine NX.sq (TS.sq (TS.sq (TS.rg (TI.ra 1 [1, 2, 3, 4] (st 34 [(1, pt 1 0), (2, pt 2 0), (3, pt 3 0), (4, iv 0)]) (TI.dn (NX.sq (TS.bk 0 ?_)))))))
 have hX := of_do hF
 clear hF
 obtain ⟨r19, h20, hF⟩ := hX
 refine TS.lp (TL.weak (a2 := (st 34 [(1, pt 1 0), (2, pt 2 0), (3, pt 3 0), (4, iv 0)])) (h2 := [ab 86 e86 p1, cl 24 [iv p0, sv 0 p1.length ANY], cl 30 [iv 0, .slice none 0 0], cl 30 [iv p0, accV 4 (List.length ([]))], accB 93 (List.length ([])) (List.flatMap e93 ([]))]) (Wk.an [1, 2, 3, 4] (.ac (.lt (.fl (.sl .nil)) (.lt (.fl (.fl .nil)) (.lt (.fl (.cons (Rn.accN) .nil)) (.cons At.accN (.nil _)))))) [pt 1 0, pt 2 0, pt 3 0, iv 0] (.pp (.pp (.pp (.fl .nil))))) (TL.post (L16l0 p0 p1 0 ([]) r19 h20) ?_))
 rintro e a1 h1 hp
 obtain ⟨rfl, hw⟩ := hp
 refine ⟨(st 34 [(2, pt 1 0), (3, pt 2 0)]), [ab 86 e86 p1, cl 30 [iv 0, .slice none 0 0], cl 30 [iv p0, accV 3 r19.length], ab 93 e93 r19], (NX.bkX (NX.sq (TS.sq (TS.rg (TI.rn 2 [2] [0, 1, 3] (st 34 [(2, pt 1 0)]) [ab 86 e86 p1, cl 30 [iv p0, accV 3 r19.length], .dead, ab 93 e93 r19] (TI.dn (NX.sq (TS.rt ?_)))))))), hw⟩
 have hF := Option.some.inj hF
 subst hF
 exact ⟨.inr rfl, rfl, ag [iv p0, accV 3 r19.length], by kernel_rfl, WkV.made (L := 1) (f := [3]) (by decide) (by decide) rfl (.ac (.nil _)) (Rn.agg' (.fl (.cons (Rn.acc (Nat.le_of_ble_eq_true rfl) rfl) .nil)))⟩
theorem C16 (p0 : Int) (p1 : (List ((Int × Bool) × (Int × Bool)))) (r : (Int × (List ((Int × Bool) × (Int × Bool))))) (hF : F16 p0 p1 = some r) : PureSim Try.prog 16 [ag [iv p0, sv 0 p1.length ANY]] [ab 86 e86 p1] (V16 1 r) (N16 1 r) :=
 PureSim.of_Fin Try.func16 (c := c16) (by kernel_rfl) (by kernel_rfl) 1 rfl [0] [0] (by kernel_rfl) (B16 p0 p1 r hF)
noncomputable def c17 : Code := Try.f17.code
def H17_0 (p0 : (List (Int × Bool))) (v6 : (List (Int × Bool))) : List Blk := [ab 50 e50 p0, ab 55 e55 v6]
def F17l0 (p0 : (List (Int × Bool))) (v6 : (List (Int × Bool))) (v5 : Int) : Option (List (Int × Bool)) :=
 if decide (v5 < (p0.length : Int)) then
  if (0 : Int) ≤ v5 ∧ v5 < (p0.length : Int) then
   some (List.getD p0 (Int.toNat v5) (0, false)) >>= fun o16 =>
   if List.length v6 ≤ 1000000000 then
    F17l0 p0 (v6 ++ [(o16.1, o16.2)]) (w64 (v5 + 1))
   else none
  else none
 else
  some v6
 partial_fixpoint
def F17 (p0 : (List (Int × Bool))) : Option (List (Int × Bool)) :=
 F17l0 p0 ([]) 0 >>= fun r19 =>
 some r19
def V17 (b : Nat) (r : (List (Int × Bool))) : Value := accV (b + 0) r.length
def N17 (b : Nat) (r : (List (Int × Bool))) : List Blk := [ab 55 e55 r]
def P17l0 (p0 : (List (Int × Bool))) (r : (List (Int × Bool))) : Post := fun e a h => e = .exit 0 ∧ Wk Try.prog 1 1 a h (st 19 [(3, accV 1 r.length)]) [ab 50 e50 p0, ab 55 e55 r]
theorem L17l0 (p0 : (List (Int × Bool))) (v6 : (List (Int × Bool))) (v5 : Int) (r : (List (Int × Bool))) (hF : F17l0 p0 v6 v5 = some r) : TL Try.prog 1 1 c17.s2.s2.s1.s2.bd.bd (st 19 [(0, sv 0 p0.length ANY), (3, accV 1 v6.length), (4, iv v5)]) (H17_0 p0 v6) (P17l0 p0 r) := by
 refine F17l0.partial_correctness p0 (motive := fun v6 v5 r => TL Try.prog 1 1 c17.s2.s2.s1.s2.bd.bd (st 19 [(0, sv 0 p0.length ANY), (3, accV 1 v6.length), (4, iv v5)]) (H17_0 p0 v6) (P17l0 p0 r)) ?_ v6 v5 r hF
 clear hF r v6 v5
 intro again ih v6 v5 r hF
 refine TL.round (TS.sq (TS.sq (TS.rg (TI.ra 4 [0, 3, 4, 8] (st 19 [(0, sv 0 p0.length ANY), (3, accV 1 v6.length), (4, iv v5), (8, .bool (decide (v5 < (p0.length : Int))))]) (TI.dn (NX.sq ?_))))))
 refine TS.cd (.tmp 8) (decide (v5 < (p0.length : Int))) (fun hc14 => ?_) (fun hc14 => ?_)
 · replace hF := of_pos hF hc14
   refine TS.sk (NX.sq (TS.sq (TS.bk 1 ?_)))
   have hX := of_guard hF
   clear hF
   obtain ⟨hg15, hF⟩ := hX
   have hX := of_do hF
   clear hF
   obtain ⟨o16, h17, hF⟩ := hX
   replace h17 := Option.some.inj h17
   have hX := of_guard hF
   clear hF
   obtain ⟨hg18, hF⟩ := hX
   refine TS.rg (TI.ra 3 [0, 4, 11, 12, 13] (st 19 [(0, sv 0 p0.length ANY), (4, iv v5), (11, accV 1 v6.length), (12, sv 0 p0.length ANY), (13, iv v5)]) (TI.o { val := .pointer (some ⟨0, 0 + (Int.toNat v5) * 2, none⟩) } (q_ixS 0 0 ((Int.toNat v5) * 2) (by kernel_rfl) hg15) [0, 4, 11, 14] [0, 1] (st 19 [(0, sv 0 p0.length ANY), (4, iv v5), (11, accV 1 v6.length), (14, .pointer (some ⟨0, 0 + (Int.toNat v5) * 2, none⟩))]) (H17_0 p0 v6) (TI.o { val := ag [iv o16.1, .bool o16.2] } (q_nAa Try.prog (H17_0 p0 v6) 50 0 (0 + (Int.toNat v5) * 2) p0 e50 2 50 (Int.toNat v5) (0, false) h17) [0, 4, 11, 15] [0, 1] (st 19 [(0, sv 0 p0.length ANY), (4, iv v5), (11, accV 1 v6.length), (15, ag [iv o16.1, .bool o16.2])]) (H17_0 p0 v6) (TI.rn 1 [0, 4, 11, 16] [0, 1, 2] (st 19 [(0, sv 0 p0.length ANY), (4, iv v5), (11, accV 1 v6.length), (16, sv 2 1 1)]) [ab 50 e50 p0, ab 55 e55 v6, cl 55 [iv o16.1, .bool o16.2]] (TI.acc (l := v6) (b := 1) (ts := #[32, 32]) (e := 55) (bytes := 16) (z := ag [iv 0, .bool false]) (y := sv 2 1 1) (ys := [(o16.1, o16.2)]) (xs := List.flatMap e55 ([(o16.1, o16.2)])) (m := 1) (s := 2) (enc := e55) (by kernel_rfl) (by kernel_rfl) (by decide) (by kernel_rfl) (by kernel_rfl) (by kernel_rfl) (by kernel_rfl) (by kernel_rfl) (by kernel_rfl) (by kernel_rfl) (by kernel_rfl) (fun _ => rfl) rfl rfl (by omega) [0, 4, 17] [0, 3] (a2 := (st 19 [(0, sv 0 p0.length ANY), (4, iv v5), (17, sv 3 (List.length (v6 ++ [(o16.1, o16.2)])) UNK)])) (h2 := [ab 50 e50 p0, .dead, .dead, .cells 55 (List.flatMap e55 (v6 ++ [(o16.1, o16.2)]))]) (by kernel_rfl) (TI.ra 1 [0, 3, 4] (st 19 [(0, sv 0 p0.length ANY), (3, sv 3 (List.length (v6 ++ [(o16.1, o16.2)])) UNK), (4, iv v5)]) (TI.dn (NX.bk ?_))))))))
   refine NX.sq (TS.rg (TI.ra 3 [0, 3, 4] (st 19 [(0, sv 0 p0.length ANY), (3, sv 3 (List.length (v6 ++ [(o16.1, o16.2)])) UNK), (4, iv (w64 (v5 + 1)))]) (TI.dn ?_)))
   exact Rd.again (a2 := (st 19 [(0, sv 0 p0.length ANY), (3, accV 1 (List.length (v6 ++ [(o16.1, o16.2)]))), (4, iv (w64 (v5 + 1)))])) (h2 := [ab 50 e50 p0, accB 55 (List.length (v6 ++ [(o16.1, o16.2)])) (List.flatMap e55 (v6 ++ [(o16.1, o16.2)]))]) (Wk.an [3] (.ac (.cons (At.accU (by kernel_rfl) rfl (fun _ => rfl)) (.nil _))) [sv 0 p0.length ANY, sv 3 (List.length (v6 ++ [(o16.1, o16.2)])) UNK, iv (w64 (v5 + 1))] (.sl (.cons (Rn.accU (Nat.le_of_ble_eq_true rfl) rfl (by simp)) (.fl .nil)))) (ih (v6 ++ [(o16.1, o16.2)]) (w64 (v5 + 1)) _ hF)
 replace hF := of_neg hF hc14
 refine TS.ex 0 (NX.sqX ?_)
 have hF := Option.some.inj hF
 subst hF
 exact Rd.out (e := .exit 0) (by intro h; cases h) (And.intro rfl (Wk.an [1] (.ac (.ac (.nil _))) [accV 1 v6.length] (.cons (Rn.acc (Nat.le_of_ble_eq_true rfl) rfl) .nil)))
theorem B17 (p0 : (List (Int × Bool))) (r : (List (Int × Bool))) (hF : F17 p0 = some r) : TS Try.prog 1 1 c17 (st 19 [(0, sv 0 p0.length ANY)]) [ab 50 e50 p0] (NX Try.prog 1 1 [] (FinP Try.prog Try.f17 1 (V17 1 r) (N17 1 r))) := by
 unfold F17 at hF
 refine TS.sq (TS.rg (TI.ra 1 [0] (st 19 [(0, sv 0 p0.length ANY)]) (TI.dn (NX.sq (TS.sq (TS.rg (TI.ra 1 [0, 3] (st 19 [(0, sv 0 p0.length ANY), (3, .slice none 0 0)]) (TI.dn ?_))))))))
 refine NX.sq (TS.sq (TS.sq (TS.rg (TI.ra 1 [0, 3, 4] (st 19 [(0, sv 0 p0.length ANY), (3, .slice none 0 0), (4, iv 0)]) (TI.dn (NX.sq (TS.bk 0 ?_)))))))
 have hX := of_do hF
 clear hF
 obtain ⟨r19, h20, hF⟩ := hX
 refine TS.lp (TL.weak (a2 := (st 19 [(0, sv 0 p0.length ANY), (3, accV 1 (List.length ([]))), (4, iv 0)])) (h2 := [ab 50 e50 p0, accB 55 (List.length ([])) (List.flatMap e55 ([]))]) (Wk.an [1] (.ac (.cons At.accN (.nil _))) [sv 0 p0.length ANY, .slice none 0 0, iv 0] (.sl (.cons (Rn.accN) (.fl .nil)))) (TL.post (L17l0 p0 ([]) 0 r19 h20) ?_))
 rintro e a1 h1 hp
 obtain ⟨rfl, hw⟩ := hp
 refine ⟨(st 19 [(3, accV 1 r19.length)]), [ab 50 e50 p0, ab 55 e55 r19], (NX.bkX (NX.sq (TS.sq (TS.rg (TI.ra 2 [2] (st 19 [(2, accV 1 r19.length)]) (TI.dn (NX.sq (TS.rt ?_)))))))), hw⟩
 have hF := Option.some.inj hF
 subst hF
 exact ⟨.inr rfl, rfl, accV 1 r19.length, by kernel_rfl, WkV.made (L := 1) (f := [1]) (by decide) (by decide) rfl (.ac (.nil _)) (Rn.acc (Nat.le_of_ble_eq_true rfl) rfl)⟩
theorem C17 (p0 : (List (Int × Bool))) (r : (List (Int × Bool))) (hF : F17 p0 = some r) : PureSim Try.prog 17 [sv 0 p0.length ANY] [ab 50 e50 p0] (V17 1 r) (N17 1 r) :=
 PureSim.of_Fin Try.func17 (c := c17) (by kernel_rfl) (by kernel_rfl) 1 rfl [0] [0] (by kernel_rfl) (B17 p0 r hF)
noncomputable def c25 : Code := Try.f25.code
def S25_0 (p0 : (List Int)) (p1 : (List Int)) : CAct := (st 26 [(0, sv 0 p0.length ANY), (1, sv 1 p1.length ANY), (5, iv 0)])
def H25_1 (p0 : (List Int)) (p1 : (List Int)) : List Blk := [ab 3 e3 p0, ab 3 e3 p1]
def F25l0 (p0 : (List Int)) (p1 : (List Int)) (v10 : Int) : Option (Unit ⊕ Unit) :=
 if decide (v10 < (p0.length : Int)) then
  if (0 : Int) ≤ v10 ∧ v10 < (p0.length : Int) then
   some (List.getD p0 (Int.toNat v10) 0) >>= fun o22 =>
   if (0 : Int) ≤ v10 ∧ v10 < (p1.length : Int) then
    some (List.getD p1 (Int.toNat v10) 0) >>= fun o25 =>
    if o22 != o25 then
     some (.inl ())
    else
     F25l0 p0 p1 (w64 (v10 + 1))
   else none
  else none
 else
  some (.inr ())
 partial_fixpoint
def F25 (p0 : (List Int)) (p1 : (List Int)) : Option Bool :=
 if (p0.length : Int) != (p1.length : Int) then
  some false
 else
  F25l0 p0 p1 0 >>= fun r28 =>
  match r28 with
  | .inl o30 =>
   some false
  | .inr o31 =>
   some true
def V25 (b : Nat) (r : Bool) : Value := .bool r
def N25 (b : Nat) (r : Bool) : List Blk := []
def P25l0 (p0 : (List Int)) (p1 : (List Int)) (r : (Unit ⊕ Unit)) : Post := fun e a h => (match r with | .inl q0 => e = .ret ∧ Wk Try.prog 2 2 a h (st 26 [(4, .bool false)]) (H25_1 p0 p1) | .inr q0 => e = .exit 0 ∧ Wk Try.prog 2 2 a h (st 26 []) (H25_1 p0 p1))
theorem L25l0 (p0 : (List Int)) (p1 : (List Int)) (v10 : Int) (r : (Unit ⊕ Unit)) (hF : F25l0 p0 p1 v10 = some r) : TL Try.prog 2 2 c25.s2.s2.s1.s2.bd.bd (st 26 [(0, sv 0 p0.length ANY), (1, sv 1 p1.length ANY), (5, iv v10)]) (H25_1 p0 p1) (P25l0 p0 p1 r) := by
 refine F25l0.partial_correctness p0 p1 (motive := fun v10 r => TL Try.prog 2 2 c25.s2.s2.s1.s2.bd.bd (st 26 [(0, sv 0 p0.length ANY), (1, sv 1 p1.length ANY), (5, iv v10)]) (H25_1 p0 p1) (P25l0 p0 p1 r)) ?_ v10 r hF
 clear hF r v10
 intro again ih v10 r hF
 refine TL.round (TS.sq (TS.sq (TS.rg (TI.ra 4 [0, 1, 5, 14] (st 26 [(0, sv 0 p0.length ANY), (1, sv 1 p1.length ANY), (5, iv v10), (14, .bool (decide (v10 < (p0.length : Int))))]) (TI.dn (NX.sq ?_))))))
 refine TS.cd (.tmp 14) (decide (v10 < (p0.length : Int))) (fun hc20 => ?_) (fun hc20 => ?_)
 · replace hF := of_pos hF hc20
   refine TS.sk (NX.sq (TS.sq (TS.bk 1 (TS.sq ?_))))
   have hX := of_guard hF
   clear hF
   obtain ⟨hg21, hF⟩ := hX
   have hX := of_do hF
   clear hF
   obtain ⟨o22, h23, hF⟩ := hX
   replace h23 := Option.some.inj h23
   have hX := of_guard hF
   clear hF
   obtain ⟨hg24, hF⟩ := hX
   have hX := of_do hF
   clear hF
   obtain ⟨o25, h26, hF⟩ := hX
   replace h26 := Option.some.inj h26
   refine TS.dp [] (fun e he => by cases he) mixed 8 [0, 1, 5, 25] [0, 1] (st 26 [(0, sv 0 p0.length ANY), (1, sv 1 p1.length ANY), (5, iv v10), (25, .bool (o22 != o25))]) (H25_1 p0 p1) ?_ ?_
   · exact QJ.rn (qs (st 26 [(0, sv 0 p0.length ANY), (1, sv 1 p1.length ANY), (5, iv v10), (14, .bool (decide (v10 < (p0.length : Int)))), (17, sv 0 p0.length ANY), (18, iv v10)]) (H25_1 p0 p1) [] []) 2 (QJ.o { val := .pointer (some ⟨0, 0 + (Int.toNat v10) * 1, none⟩) } (q_ixS 0 0 ((Int.toNat v10) * 1) (by kernel_rfl) hg21) (QJ.o { val := iv o22 } (q_n1a Try.prog (H25_1 p0 p1) 3 0 (0 + (Int.toNat v10) * 1) p0 e3 1 3 (Int.toNat v10) 0 0 h23) (QJ.rn (qs (st 26 [(0, sv 0 p0.length ANY), (1, sv 1 p1.length ANY), (5, iv v10), (14, .bool (decide (v10 < (p0.length : Int)))), (17, sv 0 p0.length ANY), (18, iv v10), (19, .pointer (some ⟨0, 0 + (Int.toNat v10) * 1, none⟩)), (20, iv o22), (21, sv 1 p1.length ANY), (22, iv v10)]) (H25_1 p0 p1) [] []) 2 (QJ.o { val := .pointer (some ⟨1, 0 + (Int.toNat v10) * 1, none⟩) } (q_ixS 1 0 ((Int.toNat v10) * 1) (by kernel_rfl) hg24) (QJ.o { val := iv o25 } (q_n1a Try.prog (H25_1 p0 p1) 3 1 (0 + (Int.toNat v10) * 1) p1 e3 1 3 (Int.toNat v10) 0 0 h26) (QJ.dn ⟨rfl, SJ.la⟩))))))
   refine TS.cd (.tmp 25) (o22 != o25) (fun hc27 => ?_) (fun hc27 => ?_)
   · replace hF := of_pos hF hc27
     refine TS.sq (TS.rg (TI.ra 1 [4] (st 26 [(4, .bool false)]) (TI.dn (NX.sq (TS.rt (NX.bkR (NX.sqR ?_)))))))
     have hF := Option.some.inj hF
     subst hF
     exact Rd.out (e := .ret) (by intro h; cases h) (And.intro rfl (Wk.an [] (.ac (.ac (.nil _))) [.bool false] (.fl .nil)))
   replace hF := of_neg hF hc27
   refine TS.sk (NX.bk (NX.sq (TS.rg (TI.ra 3 [0, 1, 5] (st 26 [(0, sv 0 p0.length ANY), (1, sv 1 p1.length ANY), (5, iv (w64 (v10 + 1)))]) (TI.dn ?_)))))
   exact Rd.again (a2 := (st 26 [(0, sv 0 p0.length ANY), (1, sv 1 p1.length ANY), (5, iv (w64 (v10 + 1)))])) (h2 := (H25_1 p0 p1)) (Wk.an [] (.ac (.ac (.nil _))) [sv 0 p0.length ANY, sv 1 p1.length ANY, iv (w64 (v10 + 1))] (.sl (.sl (.fl .nil)))) (ih (w64 (v10 + 1)) _ hF)
 replace hF := of_neg hF hc20
 refine TS.ex 0 (NX.sqX ?_)
 have hF := Option.some.inj hF
 subst hF
 exact Rd.out (e := .exit 0) (by intro h; cases h) (And.intro rfl (Wk.an [] (.ac (.ac (.nil _))) [] .nil))
theorem B25 (p0 : (List Int)) (p1 : (List Int)) (r : Bool) (hF : F25 p0 p1 = some r) : TS Try.prog 2 2 c25 (st 26 [(0, sv 0 p0.length ANY), (1, sv 1 p1.length ANY)]) (H25_1 p0 p1) (NX Try.prog 2 2 [] (FinP Try.prog Try.f25 2 (V25 2 r) (N25 2 r))) := by
 unfold F25 at hF
 refine TS.sq (TS.rg (TI.ra 1 [0, 1] (st 26 [(0, sv 0 p0.length ANY), (1, sv 1 p1.length ANY)]) (TI.dn (NX.sq (TS.sq (TS.sq (TS.rg (TI.ra 5 [0, 1, 10] (st 26 [(0, sv 0 p0.length ANY), (1, sv 1 p1.length ANY), (10, .bool ((p0.length : Int) != (p1.length : Int)))]) ?_))))))))
 refine TI.dn (NX.sq ?_)
 refine TS.cd (.tmp 10) ((p0.length : Int) != (p1.length : Int)) (fun hc1 => ?_) (fun hc1 => ?_)
 · replace hF := of_pos hF hc1
   refine TS.sq (TS.rg (TI.ra 1 [4] (st 26 [(4, .bool false)]) (TI.dn (NX.sq (TS.rt (NX.sqR ?_))))))
   have hF := Option.some.inj hF
   subst hF
   exact ⟨.inr rfl, rfl, .bool false, by kernel_rfl, WkV.flat0 (by kernel_rfl) (Nat.le_of_ble_eq_true rfl)⟩
 replace hF := of_neg hF hc1
 refine TS.sk (NX.sq (TS.sq (TS.sq (TS.rg (TI.ra 1 [0, 1, 5] (S25_0 p0 p1) (TI.dn (NX.sq (TS.bk 0 ?_))))))))
 have hX := of_do hF
 clear hF
 obtain ⟨r28, h29, hF⟩ := hX
 refine TS.lp (TL.weak (a2 := (S25_0 p0 p1)) (h2 := (H25_1 p0 p1)) (Wk.an [] (.ac (.ac (.nil _))) [sv 0 p0.length ANY, sv 1 p1.length ANY, iv 0] (.sl (.sl (.fl .nil)))) (TL.post (L25l0 p0 p1 0 r28 h29) ?_))
 rintro e a1 h1 hp
 rcases r28 with o30 | o31
 · skip
   obtain ⟨rfl, hw⟩ := hp
   refine ⟨(st 26 [(4, .bool false)]), (H25_1 p0 p1), (NX.bkR (NX.sqR ?_)), hw⟩
   have hF := Option.some.inj hF
   subst hF
   exact ⟨.inr rfl, rfl, .bool false, by kernel_rfl, WkV.flat0 (by kernel_rfl) (Nat.le_of_ble_eq_true rfl)⟩
 skip
 obtain ⟨rfl, hw⟩ := hp
 refine ⟨(st 26 []), (H25_1 p0 p1), (NX.bkX (NX.sq (TS.sq (TS.rg (TI.ra 1 [4] (st 26 [(4, .bool true)]) (TI.dn (NX.sq (TS.rt ?_)))))))), hw⟩
 have hF := Option.some.inj hF
 subst hF
 exact ⟨.inr rfl, rfl, .bool true, by kernel_rfl, WkV.flat0 (by kernel_rfl) (Nat.le_of_ble_eq_true rfl)⟩
theorem C25 (p0 : (List Int)) (p1 : (List Int)) (r : Bool) (hF : F25 p0 p1 = some r) : PureSim Try.prog 25 [sv 0 p0.length ANY, sv 1 p1.length ANY] (H25_1 p0 p1) (V25 2 r) (N25 2 r) :=
 PureSim.of_Fin Try.func25 (c := c25) (by kernel_rfl) (by kernel_rfl) 2 rfl [0, 1] [0, 1] (by kernel_rfl) (B25 p0 p1 r hF)
noncomputable def c62 : Code := Try.f62.code
def H62_0 (p2 : (List Bool)) (p0 : Int) (p1 : Bool) : List Blk := [ab 4 e4 p2, cl 50 [iv p0, .bool p1]]
def F62 (p0 : Int) (p1 : Bool) (p2 : (List Bool)) : Option Bool :=
 if (0 : Int) ≤ p0 ∧ p0 < (p2.length : Int) then
  some (List.getD p2 (Int.toNat p0) false) >>= fun o2 =>
  some (o2 == p1)
 else none
def V62 (b : Nat) (r : Bool) : Value := .bool r
def N62 (b : Nat) (r : Bool) : List Blk := []
theorem B62 (p0 : Int) (p1 : Bool) (p2 : (List Bool)) (r : Bool) (hF : F62 p0 p1 p2 = some r) : TS Try.prog 1 1 c62 (st 13 [(0, ag [iv p0, .bool p1]), (1, sv 0 p2.length ANY)]) [ab 4 e4 p2] (NX Try.prog 1 1 [] (FinP Try.prog Try.f62 1 (V62 1 r) (N62 1 r))) := by
 unfold F62 at hF
 refine TS.sq (TS.rg (TI.rn 2 [1, 2] [0, 1] (st 13 [(1, sv 0 p2.length ANY), (2, pt 1 0)]) (H62_0 p2 p0 p1) (TI.dn (NX.sq (TS.sq ?_)))))
 have hX := of_guard hF
 clear hF
 obtain ⟨hg1, hF⟩ := hX
 have hX := of_do hF
 clear hF
 obtain ⟨o2, h3, hF⟩ := hX
 replace h3 := Option.some.inj h3
 refine TS.dp [] (fun e he => by cases he) mixed 7 [4] [0] (st 13 [(4, .bool (o2 == p1))]) [ab 4 e4 p2, .dead] ?_ ?_
 · exact QJ.rn (qs (st 13 [(1, sv 0 p2.length ANY), (2, pt 1 0), (5, sv 0 p2.length ANY), (6, pt 1 0), (7, iv p0)]) (H62_0 p2 p0 p1) [] []) 3 (QJ.o { val := .pointer (some ⟨0, 0 + (Int.toNat p0) * 1, none⟩) } (q_ixS 0 0 ((Int.toNat p0) * 1) (by kernel_rfl) hg1) (QJ.o { val := .bool o2 } (q_n1a Try.prog (H62_0 p2 p0 p1) 4 0 (0 + (Int.toNat p0) * 1) p2 e4 1 4 (Int.toNat p0) 0 false h3) (QJ.rn (qs (st 13 [(1, sv 0 p2.length ANY), (2, pt 1 0), (5, sv 0 p2.length ANY), (6, pt 1 0), (7, iv p0), (8, .pointer (some ⟨0, 0 + (Int.toNat p0) * 1, none⟩)), (9, .bool o2), (10, pt 1 1), (11, .bool p1)]) (H62_0 p2 p0 p1) [] []) 2 (QJ.dn ⟨rfl, SJ.la⟩))))
 refine TS.rt ?_
 have hF := Option.some.inj hF
 subst hF
 exact ⟨.inr rfl, rfl, .bool (o2 == p1), by kernel_rfl, WkV.flat0 (by kernel_rfl) (Nat.le_of_ble_eq_true rfl)⟩
theorem C62 (p0 : Int) (p1 : Bool) (p2 : (List Bool)) (r : Bool) (hF : F62 p0 p1 p2 = some r) : PureSim Try.prog 62 [ag [iv p0, .bool p1], sv 0 p2.length ANY] [ab 4 e4 p2] (V62 1 r) (N62 1 r) :=
 PureSim.of_Fin Try.func62 (c := c62) (by kernel_rfl) (by kernel_rfl) 1 rfl [0, 1] [0] (by kernel_rfl) (B62 p0 p1 p2 r hF)
noncomputable def c63 : Code := Try.f63.code
def S63_0 (p4 : (List Bool)) (p0 : Int) (o2 : Bool) (p1 : Bool) : CAct := (st 27 [(1, sv 0 p4.length ANY), (2, pt 1 0), (5, sv 0 p4.length ANY), (6, pt 1 0), (7, pt 1 0), (8, iv p0), (9, .pointer (some ⟨0, 0 + (Int.toNat p0) * 1, none⟩)), (10, .bool o2), (11, pt 1 0), (12, pt 1 1), (13, .bool p1)])
def S63_1 (p4 : (List Bool)) (p0 : Int) : CAct := (st 27 [(1, sv 0 p4.length ANY), (2, pt 1 0), (5, sv 0 p4.length ANY), (6, pt 1 0), (7, pt 1 0), (8, iv p0)])
def H63_2 (p4 : (List Bool)) (p0 : Int) (p1 : Bool) (p2 : Int) (p3 : Bool) : List Blk := [ab 4 e4 p4, cl 93 [iv p0, .bool p1, iv p2, .bool p3]]
def F63 (p0 : Int) (p1 : Bool) (p2 : Int) (p3 : Bool) (p4 : (List Bool)) : Option Bool :=
 if (0 : Int) ≤ p0 ∧ p0 < (p4.length : Int) then
  some (List.getD p4 (Int.toNat p0) false) >>= fun o2 =>
  (
   if o2 == p1 then
    some (true)
   else
    if (0 : Int) ≤ p2 ∧ p2 < (p4.length : Int) then
     some (List.getD p4 (Int.toNat p2) false) >>= fun o6 =>
     some (o6 == p3)
    else none
  : Option Bool) >>= fun m8 =>
  some m8
 else none
def V63 (b : Nat) (r : Bool) : Value := .bool r
def N63 (b : Nat) (r : Bool) : List Blk := []
theorem B63 (p0 : Int) (p1 : Bool) (p2 : Int) (p3 : Bool) (p4 : (List Bool)) (r : Bool) (hF : F63 p0 p1 p2 p3 p4 = some r) : TS Try.prog 1 1 c63 (st 27 [(0, ag [iv p0, .bool p1, iv p2, .bool p3]), (1, sv 0 p4.length ANY)]) [ab 4 e4 p4] (NX Try.prog 1 1 [] (FinP Try.prog Try.f63 1 (V63 1 r) (N63 1 r))) := by
 unfold F63 at hF
 refine TS.sq (TS.rg (TI.rn 2 [1, 2] [0, 1] (st 27 [(1, sv 0 p4.length ANY), (2, pt 1 0)]) (H63_2 p4 p0 p1 p2 p3) (TI.dn (NX.sq (TS.sq ?_)))))
 have hX := of_guard hF
 clear hF
 obtain ⟨hg1, hF⟩ := hX
 have hX := of_do hF
 clear hF
 obtain ⟨o2, h3, hF⟩ := hX
 replace h3 := Option.some.inj h3
 have hX := of_do hF
 clear hF
 obtain ⟨m8, hm9, hF⟩ := hX
 have hK : NX Try.prog 1 1 [.sq c63.s2.s2] (FinP Try.prog Try.f63 1 (V63 1 r) (N63 1 r)) .normal (st 27 [(4, .bool m8)]) [ab 4 e4 p4, .dead] := by
  refine NX.sq (TS.rt ?_)
  have hF := Option.some.inj hF
  subst hF
  exact ⟨.inr rfl, rfl, .bool m8, by kernel_rfl, WkV.flat0 (by kernel_rfl) (Nat.le_of_ble_eq_true rfl)⟩
 rcases Bool.eq_false_or_eq_true (o2 == p1) with hc4 | hc4
 · replace hm9 := of_pos hm9 hc4
   have hm9 := Option.some.inj hm9
   subst hm9
   refine TS.dp [] (fun e he => by cases he) mixed 20 [4] [0] (st 27 [(4, .bool true)]) [ab 4 e4 p4, .dead] ?_ ?_
   · exact QJ.rn (qs (S63_1 p4 p0) (H63_2 p4 p0 p1 p2 p3) [] []) 4 (QJ.o { val := .pointer (some ⟨0, 0 + (Int.toNat p0) * 1, none⟩) } (q_ixS 0 0 ((Int.toNat p0) * 1) (by kernel_rfl) hg1) (QJ.o { val := .bool o2 } (q_n1a Try.prog (H63_2 p4 p0 p1 p2 p3) 4 0 (0 + (Int.toNat p0) * 1) p4 e4 1 4 (Int.toNat p0) 0 false h3) (QJ.rn (qs (S63_0 p4 p0 o2 p1) (H63_2 p4 p0 p1 p2 p3) [] []) 3 (QJ.o { val := .bool true } (q_conv (e := o2 == p1) (b := true) (by kernel_rfl) hc4) (QJ.rn (qs (st 27 [(1, sv 0 p4.length ANY), (2, pt 1 0), (5, sv 0 p4.length ANY), (6, pt 1 0), (7, pt 1 0), (8, iv p0), (9, .pointer (some ⟨0, 0 + (Int.toNat p0) * 1, none⟩)), (10, .bool o2), (11, pt 1 0), (12, pt 1 1), (13, .bool p1), (14, .bool true), (15, .bool true), (16, undef), (17, undef), (18, undef), (19, undef), (20, undef), (21, undef), (22, undef), (23, undef), (24, undef)]) (H63_2 p4 p0 p1 p2 p3) [] []) 10 (QJ.dn ⟨rfl, SJ.la⟩))))))
   exact hK
 replace hm9 := of_neg hm9 hc4
 have hX := of_guard hm9
 clear hm9
 obtain ⟨hg5, hm9⟩ := hX
 have hX := of_do hm9
 clear hm9
 obtain ⟨o6, h7, hm9⟩ := hX
 replace h7 := Option.some.inj h7
 have hm9 := Option.some.inj hm9
 subst hm9
 refine TS.dp [] (fun e he => by cases he) mixed 20 [4] [0] (st 27 [(4, .bool (o6 == p3))]) [ab 4 e4 p4, .dead] ?_ ?_
 · refine QJ.rn (qs (S63_1 p4 p0) (H63_2 p4 p0 p1 p2 p3) [] []) 4 (QJ.o { val := .pointer (some ⟨0, 0 + (Int.toNat p0) * 1, none⟩) } (q_ixS 0 0 ((Int.toNat p0) * 1) (by kernel_rfl) hg1) (QJ.o { val := .bool o2 } (q_n1a Try.prog (H63_2 p4 p0 p1 p2 p3) 4 0 (0 + (Int.toNat p0) * 1) p4 e4 1 4 (Int.toNat p0) 0 false h3) (QJ.rn (qs (S63_0 p4 p0 o2 p1) (H63_2 p4 p0 p1 p2 p3) [] []) 3 (QJ.o { val := .bool false } (q_conv (e := o2 == p1) (b := false) (by kernel_rfl) hc4) (QJ.rn (qs (st 27 [(1, sv 0 p4.length ANY), (2, pt 1 0), (5, sv 0 p4.length ANY), (6, pt 1 0), (7, pt 1 0), (8, iv p0), (9, .pointer (some ⟨0, 0 + (Int.toNat p0) * 1, none⟩)), (10, .bool o2), (11, pt 1 0), (12, pt 1 1), (13, .bool p1), (14, .bool false), (15, .bool false), (16, sv 0 p4.length ANY), (17, pt 1 2), (18, pt 1 2), (19, iv p2)]) (H63_2 p4 p0 p1 p2 p3) [] []) 5 (QJ.o { val := .pointer (some ⟨0, 0 + (Int.toNat p2) * 1, none⟩) } (q_ixS 0 0 ((Int.toNat p2) * 1) (by kernel_rfl) hg5) (QJ.o { val := .bool o6 } (q_n1a Try.prog (H63_2 p4 p0 p1 p2 p3) 4 0 (0 + (Int.toNat p2) * 1) p4 e4 1 4 (Int.toNat p2) 0 false h7) (QJ.rn (qs (st 27 [(1, sv 0 p4.length ANY), (2, pt 1 0), (5, sv 0 p4.length ANY), (6, pt 1 0), (7, pt 1 0), (8, iv p0), (9, .pointer (some ⟨0, 0 + (Int.toNat p0) * 1, none⟩)), (10, .bool o2), (11, pt 1 0), (12, pt 1 1), (13, .bool p1), (14, .bool false), (15, .bool false), (16, sv 0 p4.length ANY), (17, pt 1 2), (18, pt 1 2), (19, iv p2), (20, .pointer (some ⟨0, 0 + (Int.toNat p2) * 1, none⟩)), (21, .bool o6), (22, pt 1 2), (23, pt 1 3), (24, .bool p3)]) (H63_2 p4 p0 p1 p2 p3) [] []) 3 ?_))))))))
   exact QJ.dn ⟨rfl, SJ.la⟩
 exact hK
theorem C63 (p0 : Int) (p1 : Bool) (p2 : Int) (p3 : Bool) (p4 : (List Bool)) (r : Bool) (hF : F63 p0 p1 p2 p3 p4 = some r) : PureSim Try.prog 63 [ag [iv p0, .bool p1, iv p2, .bool p3], sv 0 p4.length ANY] [ab 4 e4 p4] (V63 1 r) (N63 1 r) :=
 PureSim.of_Fin Try.func63 (c := c63) (by kernel_rfl) (by kernel_rfl) 1 rfl [0, 1] [0] (by kernel_rfl) (B63 p0 p1 p2 p3 p4 r hF)
end
end Go.Proofs.Ytiaippkjgmccoaa
