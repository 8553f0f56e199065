/- What functions of the program compute, and that they do. -/
import Derived.Test.YtiaippkjgmccoaaKP
import Derived.Test.YtiaippkjgmccoaaKSh
set_option linter.unusedVariables false
set_option linter.unusedSimpArgs false
set_option maxRecDepth 100000
set_option maxHeartbeats 4000000
namespace Go.Proofs.Ytiaippkjgmccoaa
open Go Go.Cl
noncomputable section
def e84 (x : (Int × Int)) : List Value := [.int .u8 x.1, .int .u8 x.2]
noncomputable def c45 : Code := Try.f45.code
def F45 (p0 : Int) (p1 : (List ((Int × Bool) × (Int × Bool)))) (p2 : Int) : Option (Int × Bool) :=
 if p0 = 0 then none else
 some (Int.tmod (w64 (Int.tdiv (w64 p2) 2)) p0, (Int.tmod p2 2) == 1)
def V45 (b : Nat) (r : (Int × Bool)) : Value := ag [iv r.1, .bool r.2]
def N45 (b : Nat) (r : (Int × Bool)) : List Blk := []
theorem B45 (p0 : Int) (p1 : (List ((Int × Bool) × (Int × Bool)))) (p2 : Int) (r : (Int × Bool)) (hF : F45 p0 p1 p2 = some r) : TS Try.prog 1 1 c45 (st 15 [(0, ag [iv p0, sv 0 p1.length ANY]), (1, .int .u8 p2)]) [ab 86 e86 p1] (NX Try.prog 1 1 [] (FinP Try.prog Try.f45 1 (V45 1 r) (N45 1 r))) := by
 unfold F45 at hF
 refine TS.sq (TS.rg (TI.rn 2 [1, 2, 4] [0, 1, 2] (st 15 [(1, .int .u8 p2), (2, pt 1 0), (4, pt 2 0)]) [ab 86 e86 p1, cl 24 [iv p0, sv 0 p1.length ANY], cl 50 [iv 0, .bool false]] (TI.dn (NX.sq (TS.sq ?_)))))
 have hX := of_guardn hF
 clear hF
 obtain ⟨hg1, hF⟩ := hX
 refine TS.rg (TI.rn 5 [1, 4, 7, 9] [0, 2] (st 15 [(1, .int .u8 p2), (4, pt 2 0), (7, iv (w64 (Int.tdiv (w64 p2) 2))), (9, iv p0)]) [ab 86 e86 p1, .dead, cl 50 [iv 0, .bool false]] (TI.o { val := iv (Int.tmod (w64 (Int.tdiv (w64 p2) 2)) p0) } (q_int (P := Try.prog) (op := .rem) (ty := 3) (ox := (.tmp 7)) (oy := (.tmp 9)) (k := .i64) (k' := .i64) (y := w64 (Int.tdiv (w64 p2) 2)) (z := p0) (by kernel_rfl) (rem_ok hg1)) [1, 4, 10] [0, 2] (st 15 [(1, .int .u8 p2), (4, pt 2 0), (10, iv (Int.tmod (w64 (Int.tdiv (w64 p2) 2)) p0))]) [ab 86 e86 p1, .dead, cl 50 [iv 0, .bool false]] (TI.rn 5 [4] [0, 2] (st 15 [(4, pt 2 0)]) [ab 86 e86 p1, .dead, cl 50 [iv (Int.tmod (w64 (Int.tdiv (w64 p2) 2)) p0), .bool ((Int.tmod p2 2) == 1)]] (TI.dn (NX.sq (TS.rt ?_))))))
 have hF := Option.some.inj hF
 subst hF
 exact ⟨.inr rfl, rfl, ag [iv (Int.tmod (w64 (Int.tdiv (w64 p2) 2)) p0), .bool ((Int.tmod p2 2) == 1)], by kernel_rfl, WkV.flat0 (by kernel_rfl) (Nat.le_of_ble_eq_true rfl)⟩
theorem C45 (p0 : Int) (p1 : (List ((Int × Bool) × (Int × Bool)))) (p2 : Int) (r : (Int × Bool)) (hF : F45 p0 p1 p2 = some r) : PureSim Try.prog 45 [ag [iv p0, sv 0 p1.length ANY], .int .u8 p2] [ab 86 e86 p1] (V45 1 r) (N45 1 r) :=
 PureSim.of_Fin Try.func45 (c := c45) (by kernel_rfl) (by kernel_rfl) 1 rfl [0, 1] [0] (by kernel_rfl) (B45 p0 p1 p2 r hF)
noncomputable def c40 : Code := Try.f40.code
def S40_0 (v11 : Int) (v12 : (List ((Int × Bool) × (Int × Bool)))) (p0 : Int) (p1 : (List (Int × Int))) (o28 : (Int × Int)) (r30 : (Int × Bool)) (r32 : (Int × Bool)) : CAct := (st 45 [(1, pt 1 0), (2, pt 2 0), (3, pt 3 0), (4, iv v11), (19, .bool true), (22, pt 3 1), (23, accV 4 v12.length), (24, ag [iv (w64 (1 + (Int.tmod (w64 p0) 5))), accV 4 v12.length]), (25, pt 1 1), (26, sv 0 p1.length ANY), (27, iv v11), (28, .pointer (some ⟨0, 0 + (Int.toNat v11) * 2, none⟩)), (29, .pointer (some ⟨0, 0 + (Int.toNat v11) * 2, none⟩)), (30, .int .u8 o28.1), (31, ag [iv r30.1, .bool r30.2]), (32, ag [iv (w64 (1 + (Int.tmod (w64 p0) 5))), accV 4 v12.length]), (33, pt 1 1), (34, sv 0 p1.length ANY), (35, iv v11), (36, .pointer (some ⟨0, 0 + (Int.toNat v11) * 2, none⟩)), (37, .pointer (some ⟨0, 0 + (Int.toNat v11) * 2 + 1, none⟩)), (38, .int .u8 o28.2), (39, ag [iv r32.1, .bool r32.2]), (40, ag [iv r30.1, .bool r30.2, iv r32.1, .bool r32.2]), (41, sv 5 1 1)])
def H40_1 (p1 : (List (Int × Int))) (p0 : Int) (v12 : (List ((Int × Bool) × (Int × Bool)))) (r30 : (Int × Bool)) (r32 : (Int × Bool)) : List Blk := [ab 84 e84 p1, cl 71 [.int .u8 p0, sv 0 p1.length ANY], cl 24 [iv 0, .slice none 0 0], cl 24 [iv (w64 (1 + (Int.tmod (w64 p0) 5))), accV 4 v12.length], ab 86 e86 v12, cl 86 [iv r30.1, .bool r30.2, iv r32.1, .bool r32.2]]
def H40_2 (p1 : (List (Int × Int))) (p0 : Int) (v12 : (List ((Int × Bool) × (Int × Bool)))) : List Blk := [ab 84 e84 p1, cl 71 [.int .u8 p0, sv 0 p1.length ANY], cl 24 [iv 0, .slice none 0 0], cl 24 [iv (w64 (1 + (Int.tmod (w64 p0) 5))), accV 4 v12.length], ab 86 e86 v12]
def S40_3 (v11 : Int) : CAct := (st 45 [(1, pt 1 0), (2, pt 2 0), (3, pt 3 0), (4, iv v11)])
def F40l0 (p0 : Int) (p1 : (List (Int × Int))) (v11 : Int) (v12 : (List ((Int × Bool) × (Int × Bool)))) : Option (List ((Int × Bool) × (Int × Bool))) :=
 (
  if decide (v11 < (p1.length : Int)) then
   some (decide (v11 < 9))
  else
   some (false)
 : Option Bool) >>= fun m26 =>
 if m26 then
  if (0 : Int) ≤ v11 ∧ v11 < (p1.length : Int) then
   some (List.getD p1 (Int.toNat v11) (0, 0)) >>= fun o28 =>
   F45 (w64 (1 + (Int.tmod (w64 p0) 5))) v12 o28.1 >>= fun r30 =>
   F45 (w64 (1 + (Int.tmod (w64 p0) 5))) v12 o28.2 >>= fun r32 =>
   if List.length v12 ≤ 1000000000 then
    F40l0 p0 p1 (w64 (v11 + 1)) (v12 ++ [((r30.1, r30.2), (r32.1, r32.2))])
   else none
  else none
 else
  some v12
 partial_fixpoint
def F40 (p0 : Int) (p1 : (List (Int × Int))) : Option (Int × (List ((Int × Bool) × (Int × Bool)))) :=
 F40l0 p0 p1 0 ([]) >>= fun r36 =>
 some (w64 (1 + (Int.tmod (w64 p0) 5)), r36)
def V40 (b : Nat) (r : (Int × (List ((Int × Bool) × (Int × Bool))))) : Value := ag [iv r.1, accV (b + 0) r.2.length]
def N40 (b : Nat) (r : (Int × (List ((Int × Bool) × (Int × Bool))))) : List Blk := [ab 86 e86 r.2]
def P40l0 (p0 : Int) (p1 : (List (Int × Int))) (r : (List ((Int × Bool) × (Int × Bool)))) : Post := fun e a h => e = .exit 0 ∧ Wk Try.prog 1 1 a h (st 45 [(2, pt 1 0), (3, pt 2 0)]) [ab 84 e84 p1, cl 24 [iv 0, .slice none 0 0], cl 24 [iv (w64 (1 + (Int.tmod (w64 p0) 5))), accV 3 r.length], ab 86 e86 r]
theorem L40l0 (p0 : Int) (p1 : (List (Int × Int))) (v11 : Int) (v12 : (List ((Int × Bool) × (Int × Bool)))) (r : (List ((Int × Bool) × (Int × Bool)))) (hF : F40l0 p0 p1 v11 v12 = some r) : TL Try.prog 1 1 c40.s2.s2.s1.s2.bd.bd (S40_3 v11) (H40_2 p1 p0 v12) (P40l0 p0 p1 r) := by
 refine F40l0.partial_correctness p0 p1 (motive := fun v11 v12 r => TL Try.prog 1 1 c40.s2.s2.s1.s2.bd.bd (S40_3 v11) (H40_2 p1 p0 v12) (P40l0 p0 p1 r)) ?_ v11 v12 r hF
 clear hF r v11 v12
 intro again ih v11 v12 r hF
 refine TL.round (TS.sq (TS.sq ?_))
 have hX := of_do hF
 clear hF
 obtain ⟨m26, hm35, hF⟩ := hX
 have hK : NX Try.prog 1 1 [.sq c40.s2.s2.s1.s2.bd.bd.s1.s2, .sq c40.s2.s2.s1.s2.bd.bd.s2] (Rd Try.prog 1 1 c40.s2.s2.s1.s2.bd.bd (P40l0 p0 p1 r)) .normal (st 45 [(1, pt 1 0), (2, pt 2 0), (3, pt 3 0), (4, iv v11), (19, .bool m26)]) (H40_2 p1 p0 v12) := by
  refine NX.sq ?_
  cases m26 with
  | true =>
   replace hF := of_pos hF rfl
   refine TS.cdT (.tmp 19) (TS.sk (NX.sq (TS.sq (TS.bk 1 ?_))))
   have hX := of_guard hF
   clear hF
   obtain ⟨hg27, hF⟩ := hX
   have hX := of_do hF
   clear hF
   obtain ⟨o28, h29, hF⟩ := hX
   replace h29 := Option.some.inj h29
   have hX := of_do hF
   clear hF
   obtain ⟨r30, h31, hF⟩ := hX
   have hX := of_do hF
   clear hF
   obtain ⟨r32, h33, hF⟩ := hX
   have hX := of_guard hF
   clear hF
   obtain ⟨hg34, hF⟩ := hX
   have hT : ∀ e ∈ ([⟨45, [ag [iv (w64 (1 + (Int.tmod (w64 p0) 5))), accV 4 v12.length], .int .u8 o28.1], (H40_2 p1 p0 v12), ag [iv r30.1, .bool r30.2], []⟩, ⟨45, [ag [iv (w64 (1 + (Int.tmod (w64 p0) 5))), accV 4 v12.length], .int .u8 o28.2], (H40_2 p1 p0 v12), ag [iv r32.1, .bool r32.2], []⟩] : List Entry), PureSim Try.prog e.g e.args e.h e.v e.new := by
    intro e he
    simp only [List.mem_cons, List.not_mem_nil, or_false] at he
    rcases he with rfl | rfl
    · exact (PureSim.ren (hc := [ab 86 e86 v12]) (fun i => List.getD [(4, 0)] i (0, 0)) (C45 _ _ _ _ h31) (.ac (.nil _)) (.cons (Rn.agg' (.fl (.cons (Rn.accA (i' := 4) (Nat.le_of_ble_eq_true rfl) rfl) .nil))) (.fl .nil)) (.flat (by kernel_rfl)) newflat_nil)
    exact (PureSim.ren (hc := [ab 86 e86 v12]) (fun i => List.getD [(4, 0)] i (0, 0)) (C45 _ _ _ _ h33) (.ac (.nil _)) (.cons (Rn.agg' (.fl (.cons (Rn.accA (i' := 4) (Nat.le_of_ble_eq_true rfl) rfl) .nil))) (.fl .nil)) (.flat (by kernel_rfl)) newflat_nil)
   refine TS.drawT [⟨45, [ag [iv (w64 (1 + (Int.tmod (w64 p0) 5))), accV 4 v12.length], .int .u8 o28.1], (H40_2 p1 p0 v12), ag [iv r30.1, .bool r30.2], []⟩, ⟨45, [ag [iv (w64 (1 + (Int.tmod (w64 p0) 5))), accV 4 v12.length], .int .u8 o28.2], (H40_2 p1 p0 v12), ag [iv r32.1, .bool r32.2], []⟩] hT mixed 20 [] (S40_0 v11 v12 p0 p1 o28 r30 r32) (H40_1 p1 p0 v12 r30 r32) ?_ ?_
   · refine QJ.rn (qs (st 45 [(1, pt 1 0), (2, pt 2 0), (3, pt 3 0), (4, iv v11), (19, .bool true), (22, pt 3 1), (23, accV 4 v12.length), (24, ag [iv (w64 (1 + (Int.tmod (w64 p0) 5))), accV 4 v12.length]), (25, pt 1 1), (26, sv 0 p1.length ANY), (27, iv v11)]) (H40_2 p1 p0 v12) [] []) 6 (QJ.o { val := .pointer (some ⟨0, 0 + (Int.toNat v11) * 2, none⟩) } (q_ixS 0 0 ((Int.toNat v11) * 2) (by kernel_rfl) hg27) (QJ.rn (qs (st 45 [(1, pt 1 0), (2, pt 2 0), (3, pt 3 0), (4, iv v11), (19, .bool true), (22, pt 3 1), (23, accV 4 v12.length), (24, ag [iv (w64 (1 + (Int.tmod (w64 p0) 5))), accV 4 v12.length]), (25, pt 1 1), (26, sv 0 p1.length ANY), (27, iv v11), (28, .pointer (some ⟨0, 0 + (Int.toNat v11) * 2, none⟩)), (29, .pointer (some ⟨0, 0 + (Int.toNat v11) * 2, none⟩))]) (H40_2 p1 p0 v12) [] []) 1 (QJ.o { val := .int .u8 o28.1 } (q_n1a Try.prog (H40_2 p1 p0 v12) 5 0 (0 + (Int.toNat v11) * 2) p1 e84 2 84 (Int.toNat v11) 0 (0, 0) h29) (QJ.o { val := ag [iv r30.1, .bool r30.2], new := [] } (qOf_call (g := 45) (args := [ag [iv (w64 (1 + (Int.tmod (w64 p0) 5))), accV 4 v12.length], .int .u8 o28.1]) (by kernel_rfl) lookC_hit) (QJ.rn (qs (st 45 [(1, pt 1 0), (2, pt 2 0), (3, pt 3 0), (4, iv v11), (19, .bool true), (22, pt 3 1), (23, accV 4 v12.length), (24, ag [iv (w64 (1 + (Int.tmod (w64 p0) 5))), accV 4 v12.length]), (25, pt 1 1), (26, sv 0 p1.length ANY), (27, iv v11), (28, .pointer (some ⟨0, 0 + (Int.toNat v11) * 2, none⟩)), (29, .pointer (some ⟨0, 0 + (Int.toNat v11) * 2, none⟩)), (30, .int .u8 o28.1), (31, ag [iv r30.1, .bool r30.2]), (32, ag [iv (w64 (1 + (Int.tmod (w64 p0) 5))), accV 4 v12.length]), (33, pt 1 1), (34, sv 0 p1.length ANY), (35, iv v11)]) (H40_2 p1 p0 v12) [] []) 4 (QJ.o { val := .pointer (some ⟨0, 0 + (Int.toNat v11) * 2, none⟩) } (q_ixS 0 0 ((Int.toNat v11) * 2) (by kernel_rfl) hg27) (QJ.rn (qs (st 45 [(1, pt 1 0), (2, pt 2 0), (3, pt 3 0), (4, iv v11), (19, .bool true), (22, pt 3 1), (23, accV 4 v12.length), (24, ag [iv (w64 (1 + (Int.tmod (w64 p0) 5))), accV 4 v12.length]), (25, pt 1 1), (26, sv 0 p1.length ANY), (27, iv v11), (28, .pointer (some ⟨0, 0 + (Int.toNat v11) * 2, none⟩)), (29, .pointer (some ⟨0, 0 + (Int.toNat v11) * 2, none⟩)), (30, .int .u8 o28.1), (31, ag [iv r30.1, .bool r30.2]), (32, ag [iv (w64 (1 + (Int.tmod (w64 p0) 5))), accV 4 v12.length]), (33, pt 1 1), (34, sv 0 p1.length ANY), (35, iv v11), (36, .pointer (some ⟨0, 0 + (Int.toNat v11) * 2, none⟩)), (37, .pointer (some ⟨0, 0 + (Int.toNat v11) * 2 + 1, none⟩))]) (H40_2 p1 p0 v12) [] []) 1 (QJ.o { val := .int .u8 o28.2 } (q_n1a Try.prog (H40_2 p1 p0 v12) 5 0 (0 + (Int.toNat v11) * 2 + 1) p1 e84 2 84 (Int.toNat v11) 1 (0, 0) h29) ?_))))))))
     exact QJ.o { val := ag [iv r32.1, .bool r32.2], new := [] } (qOf_call (g := 45) (args := [ag [iv (w64 (1 + (Int.tmod (w64 p0) 5))), accV 4 v12.length], .int .u8 o28.2]) (by kernel_rfl) (lookC_skip (by intro _ ha hh; first | (exact absurd (congrArg List.length hh) (Nat.ne_of_beq_eq_false rfl)) | (have hr := Option.some.inj (h31.symm.trans (Eq.trans (congr (congr (congrArg F45 (Eq.refl (w64 (1 + (Int.tmod (w64 p0) 5))))) (Eq.refl v12)) (show o28.1 = o28.2 from congrArg (fun l => leafI 0 [argV 1 l]) ha)) h33)); first | (subst hr; rfl) | (cases hr; done) | (cases hr; rfl))) lookC_hit)) (QJ.rn (qs (S40_0 v11 v12 p0 p1 o28 r30 r32) (H40_1 p1 p0 v12 r30 r32) [(19, 5, 6)] []) 2 (QJ.dn ⟨by kernel_rfl, by kernel_rfl, by kernel_rfl⟩))
   refine TI.rn 0 [1, 2, 3, 4, 23, 41] [0, 1, 2, 3, 4, 5] (st 45 [(1, pt 1 0), (2, pt 2 0), (3, pt 3 0), (4, iv v11), (23, accV 4 v12.length), (41, sv 5 1 1)]) (H40_1 p1 p0 v12 r30 r32) (TI.acc (l := v12) (b := 4) (ts := #[22, 22]) (e := 86) (bytes := 32) (z := ag [iv 0, .bool false, iv 0, .bool false]) (y := sv 5 1 1) (ys := [((r30.1, r30.2), (r32.1, r32.2))]) (xs := List.flatMap e86 ([((r30.1, r30.2), (r32.1, r32.2))])) (m := 1) (s := 4) (enc := e86) (by kernel_rfl) (by kernel_rfl) (by decide) (by kernel_rfl) (by kernel_rfl) (by kernel_rfl) (by kernel_rfl) (by kernel_rfl) (by kernel_rfl) (by kernel_rfl) (by kernel_rfl) (fun _ => rfl) rfl rfl (by omega) [1, 2, 3, 4, 42] [0, 1, 2, 3, 6] (a2 := (st 45 [(1, pt 1 0), (2, pt 2 0), (3, pt 3 0), (4, iv v11), (42, sv 6 (List.length (v12 ++ [((r30.1, r30.2), (r32.1, r32.2))])) UNK)])) (h2 := [ab 84 e84 p1, cl 71 [.int .u8 p0, sv 0 p1.length ANY], cl 24 [iv 0, .slice none 0 0], cl 24 [iv (w64 (1 + (Int.tmod (w64 p0) 5))), accV 4 v12.length], .dead, .dead, .cells 86 (List.flatMap e86 (v12 ++ [((r30.1, r30.2), (r32.1, r32.2))]))]) (by kernel_rfl) (TI.rn 2 [1, 2, 3, 4] [0, 1, 2, 3, 6] (S40_3 v11) [ab 84 e84 p1, cl 71 [.int .u8 p0, sv 0 p1.length ANY], cl 24 [iv 0, .slice none 0 0], cl 24 [iv (w64 (1 + (Int.tmod (w64 p0) 5))), sv 6 (List.length (v12 ++ [((r30.1, r30.2), (r32.1, r32.2))])) UNK], .dead, .dead, .cells 86 (List.flatMap e86 (v12 ++ [((r30.1, r30.2), (r32.1, r32.2))]))] (TI.dn (NX.bk (NX.sq (TS.rg (TI.ra 3 [1, 2, 3, 4] (st 45 [(1, pt 1 0), (2, pt 2 0), (3, pt 3 0), (4, iv (w64 (v11 + 1)))]) (TI.dn ?_))))))))
   exact Rd.again (a2 := (st 45 [(1, pt 1 0), (2, pt 2 0), (3, pt 3 0), (4, iv (w64 (v11 + 1)))])) (h2 := [ab 84 e84 p1, cl 71 [.int .u8 p0, sv 0 p1.length ANY], cl 24 [iv 0, .slice none 0 0], cl 24 [iv (w64 (1 + (Int.tmod (w64 p0) 5))), accV 4 (List.length (v12 ++ [((r30.1, r30.2), (r32.1, r32.2))]))], accB 86 (List.length (v12 ++ [((r30.1, r30.2), (r32.1, r32.2))])) (List.flatMap e86 (v12 ++ [((r30.1, r30.2), (r32.1, r32.2))]))]) (Wk.an [1, 2, 3, 6] (.ac (.lt (.fl (.sl .nil)) (.lt (.fl (.fl .nil)) (.lt (.fl (.cons (Rn.accU (Nat.le_of_ble_eq_true rfl) rfl (by simp)) .nil)) (.cons (At.accU (by kernel_rfl) rfl (fun _ => rfl)) (.nil _)))))) [pt 1 0, pt 2 0, pt 3 0, iv (w64 (v11 + 1))] (.pp (.pp (.pp (.fl .nil))))) (ih (w64 (v11 + 1)) (v12 ++ [((r30.1, r30.2), (r32.1, r32.2))]) _ hF)
  | false =>
   replace hF := of_neg hF rfl
   refine TS.cdF (.tmp 19) (TS.ex 0 (NX.sqX ?_))
   have hF := Option.some.inj hF
   subst hF
   exact Rd.out (e := .exit 0) (by intro h; cases h) (And.intro rfl (Wk.an [2, 3, 4] (.ac (.lt (.fl (.fl .nil)) (.lt (.fl (.cons (Rn.acc (Nat.le_of_ble_eq_true rfl) rfl) .nil)) (.ac (.nil _))))) [pt 2 0, pt 3 0] (.pp (.pp .nil))))
 rcases Bool.eq_false_or_eq_true (decide (v11 < (p1.length : Int))) with hc25 | hc25
 · replace hm35 := of_pos hm35 hc25
   have hm35 := Option.some.inj hm35
   subst hm35
   exact TS.rg (TI.ra 4 [1, 2, 3, 4, 11, 14] (st 45 [(1, pt 1 0), (2, pt 2 0), (3, pt 3 0), (4, iv v11), (11, iv v11), (14, iv (p1.length : Int))]) (TI.o { val := .bool true } (q_conv (e := decide (v11 < (p1.length : Int))) (b := true) (by kernel_rfl) hc25) [1, 2, 3, 4, 15] [0, 1, 2, 3, 4] (st 45 [(1, pt 1 0), (2, pt 2 0), (3, pt 3 0), (4, iv v11), (15, .bool true)]) (H40_2 p1 p0 v12) (TI.ra 4 [1, 2, 3, 4, 19] (st 45 [(1, pt 1 0), (2, pt 2 0), (3, pt 3 0), (4, iv v11), (19, .bool (decide (v11 < 9)))]) (TI.dn hK))))
 replace hm35 := of_neg hm35 hc25
 have hm35 := Option.some.inj hm35
 subst hm35
 exact TS.rg (TI.ra 4 [1, 2, 3, 4, 11, 14] (st 45 [(1, pt 1 0), (2, pt 2 0), (3, pt 3 0), (4, iv v11), (11, iv v11), (14, iv (p1.length : Int))]) (TI.o { val := .bool false } (q_conv (e := decide (v11 < (p1.length : Int))) (b := false) (by kernel_rfl) hc25) [1, 2, 3, 4, 15] [0, 1, 2, 3, 4] (st 45 [(1, pt 1 0), (2, pt 2 0), (3, pt 3 0), (4, iv v11), (15, .bool false)]) (H40_2 p1 p0 v12) (TI.ra 4 [1, 2, 3, 4, 19] (st 45 [(1, pt 1 0), (2, pt 2 0), (3, pt 3 0), (4, iv v11), (19, .bool false)]) (TI.dn hK))))
theorem B40 (p0 : Int) (p1 : (List (Int × Int))) (r : (Int × (List ((Int × Bool) × (Int × Bool))))) (hF : F40 p0 p1 = some r) : TS Try.prog 1 1 c40 (st 45 [(0, ag [.int .u8 p0, sv 0 p1.length ANY])]) [ab 84 e84 p1] (NX Try.prog 1 1 [] (FinP Try.prog Try.f40 1 (V40 1 r) (N40 1 r))) := by
 unfold F40 at hF
 refine TS.sq (TS.rg (TI.rn 2 [1, 2] [0, 1, 2] (st 45 [(1, pt 1 0), (2, pt 2 0)]) [ab 84 e84 p1, cl 71 [.int .u8 p0, sv 0 p1.length ANY], cl 24 [iv 0, .slice none 0 0]] (TI.dn (NX.sq (TS.sq (TS.rg (TI.rn 8 [1, 2, 3] [0, 1, 2, 3] (st 45 [(1, pt 1 0), (2, pt 2 0), (3, pt 3 0)]) [ab 84 e84 p1, cl 71 [.int .u8 p0, sv 0 p1.length ANY], cl 24 [iv 0, .slice none 0 0], cl 24 [iv (w64 (1 + (Int.tmod (w64 p0) 5))), .slice none 0 0]] (TI.dn ?_))))))))
 refine NX.sq (TS.sq (TS.sq (TS.rg (TI.ra 1 [1, 2, 3, 4] (st 45 [(1, pt 1 0), (2, pt 2 0), (3, pt 3 0), (4, iv 0)]) (TI.dn (NX.sq (TS.bk 0 ?_)))))))
 have hX := of_do hF
 clear hF
 obtain ⟨r36, h37, hF⟩ := hX
 refine TS.lp (TL.weak (a2 := (st 45 [(1, pt 1 0), (2, pt 2 0), (3, pt 3 0), (4, iv 0)])) (h2 := [ab 84 e84 p1, cl 71 [.int .u8 p0, sv 0 p1.length ANY], cl 24 [iv 0, .slice none 0 0], cl 24 [iv (w64 (1 + (Int.tmod (w64 p0) 5))), accV 4 (List.length ([]))], accB 86 (List.length ([])) (List.flatMap e86 ([]))]) (Wk.an [1, 2, 3, 4] (.ac (.lt (.fl (.sl .nil)) (.lt (.fl (.fl .nil)) (.lt (.fl (.cons (Rn.accN) .nil)) (.cons At.accN (.nil _)))))) [pt 1 0, pt 2 0, pt 3 0, iv 0] (.pp (.pp (.pp (.fl .nil))))) (TL.post (L40l0 p0 p1 0 ([]) r36 h37) ?_))
 rintro e a1 h1 hp
 obtain ⟨rfl, hw⟩ := hp
 refine ⟨(st 45 [(2, pt 1 0), (3, pt 2 0)]), [ab 84 e84 p1, cl 24 [iv 0, .slice none 0 0], cl 24 [iv (w64 (1 + (Int.tmod (w64 p0) 5))), accV 3 r36.length], ab 86 e86 r36], (NX.bkX (NX.sq (TS.sq (TS.rg (TI.rn 2 [2] [0, 1, 3] (st 45 [(2, pt 1 0)]) [ab 84 e84 p1, cl 24 [iv (w64 (1 + (Int.tmod (w64 p0) 5))), accV 3 r36.length], .dead, ab 86 e86 r36] (TI.dn (NX.sq (TS.rt ?_)))))))), hw⟩
 have hF := Option.some.inj hF
 subst hF
 exact ⟨.inr rfl, rfl, ag [iv (w64 (1 + (Int.tmod (w64 p0) 5))), accV 3 r36.length], by kernel_rfl, WkV.made (L := 1) (f := [3]) (by decide) (by decide) rfl (.ac (.nil _)) (Rn.agg' (.fl (.cons (Rn.acc (Nat.le_of_ble_eq_true rfl) rfl) .nil)))⟩
theorem C40 (p0 : Int) (p1 : (List (Int × Int))) (r : (Int × (List ((Int × Bool) × (Int × Bool))))) (hF : F40 p0 p1 = some r) : PureSim Try.prog 40 [ag [.int .u8 p0, sv 0 p1.length ANY]] [ab 84 e84 p1] (V40 1 r) (N40 1 r) :=
 PureSim.of_Fin Try.func40 (c := c40) (by kernel_rfl) (by kernel_rfl) 1 rfl [0] [0] (by kernel_rfl) (B40 p0 p1 r hF)
noncomputable def c43 : Code := Try.f43.code
def F43 (p0 : Int) (p1 : Bool) : Option (Int × Bool) :=
 some (p0, !p1)
def V43 (b : Nat) (r : (Int × Bool)) : Value := ag [iv r.1, .bool r.2]
def N43 (b : Nat) (r : (Int × Bool)) : List Blk := []
theorem B43 (p0 : Int) (p1 : Bool) (r : (Int × Bool)) (hF : F43 p0 p1 = some r) : TS Try.prog 0 0 c43 (st 9 [(0, ag [iv p0, .bool p1])]) [] (NX Try.prog 0 0 [] (FinP Try.prog Try.f43 0 (V43 0 r) (N43 0 r))) := by
 unfold F43 at hF
 refine TS.sq (TS.rg (TI.rn 2 [1, 2] [0, 1] (st 9 [(1, pt 0 0), (2, pt 1 0)]) [cl 50 [iv p0, .bool p1], cl 50 [iv 0, .bool false]] (TI.dn (NX.sq (TS.sq (TS.rg (TI.rn 7 [2] [1] (st 9 [(2, pt 1 0)]) [.dead, cl 50 [iv p0, .bool (!p1)]] (TI.dn ?_))))))))
 refine NX.sq (TS.rt ?_)
 have hF := Option.some.inj hF
 subst hF
 exact ⟨.inr rfl, rfl, ag [iv p0, .bool (!p1)], by kernel_rfl, WkV.flat0 (by kernel_rfl) (Nat.le_of_ble_eq_true rfl)⟩
theorem C43 (p0 : Int) (p1 : Bool) (r : (Int × Bool)) (hF : F43 p0 p1 = some r) : PureSim Try.prog 43 [ag [iv p0, .bool p1]] [] (V43 0 r) (N43 0 r) :=
 PureSim.of_Fin Try.func43 (c := c43) (by kernel_rfl) (by kernel_rfl) 0 rfl [0] [] (by kernel_rfl) (B43 p0 p1 r hF)
noncomputable def c79 : Code := Try.f79.code
def S79_0 (p1 : (List ((Int × Bool) × (Int × Bool)))) (v17 : Int) (o37 : ((Int × Bool) × (Int × Bool))) (p2 : Int) (p3 : Bool) (r39 : (Int × Bool)) (p4 : Int) (p5 : Bool) : CAct := (st 41 [(4, pt 1 0), (5, pt 2 0), (8, pt 3 0), (10, sv 0 p1.length ANY), (11, iv (p1.length : Int)), (12, iv v17), (16, pt 3 0), (17, ag [iv o37.1.1, .bool o37.1.2]), (18, ag [iv p2, .bool p3]), (19, ag [iv r39.1, .bool r39.2]), (20, .bool true), (21, .bool true), (22, pt 3 2), (23, ag [iv o37.2.1, .bool o37.2.2]), (24, ag [iv p4, .bool p5]), (25, .bool false), (26, .bool false), (27, .bool false), (28, pt 3 2), (29, ag [iv o37.2.1, .bool o37.2.2]), (30, ag [iv p2, .bool p3])])
def S79_1 (p1 : (List ((Int × Bool) × (Int × Bool)))) (v17 : Int) (o37 : ((Int × Bool) × (Int × Bool))) (p2 : Int) (p3 : Bool) (r39 : (Int × Bool)) : CAct := (st 41 [(4, pt 1 0), (5, pt 2 0), (8, pt 3 0), (10, sv 0 p1.length ANY), (11, iv (p1.length : Int)), (12, iv v17), (16, pt 3 0), (17, ag [iv o37.1.1, .bool o37.1.2]), (18, ag [iv p2, .bool p3]), (19, ag [iv r39.1, .bool r39.2]), (20, .bool false), (21, .bool false), (22, undef), (23, undef), (24, undef), (25, undef), (26, .bool false), (27, .bool false), (28, pt 3 2), (29, ag [iv o37.2.1, .bool o37.2.2]), (30, ag [iv p2, .bool p3])])
def S79_2 (p1 : (List ((Int × Bool) × (Int × Bool)))) (v17 : Int) (o37 : ((Int × Bool) × (Int × Bool))) (p2 : Int) (p3 : Bool) (r39 : (Int × Bool)) (p4 : Int) (p5 : Bool) : CAct := (st 41 [(4, pt 1 0), (5, pt 2 0), (8, pt 3 0), (10, sv 0 p1.length ANY), (11, iv (p1.length : Int)), (12, iv v17), (16, pt 3 0), (17, ag [iv o37.1.1, .bool o37.1.2]), (18, ag [iv p2, .bool p3]), (19, ag [iv r39.1, .bool r39.2]), (20, .bool true), (21, .bool true), (22, pt 3 2), (23, ag [iv o37.2.1, .bool o37.2.2]), (24, ag [iv p4, .bool p5])])
def S79_3 (p1 : (List ((Int × Bool) × (Int × Bool)))) (v17 : Int) (o37 : ((Int × Bool) × (Int × Bool))) (p2 : Int) (p3 : Bool) : CAct := (st 41 [(4, pt 1 0), (5, pt 2 0), (8, pt 3 0), (10, sv 0 p1.length ANY), (11, iv (p1.length : Int)), (12, iv v17), (16, pt 3 0), (17, ag [iv o37.1.1, .bool o37.1.2]), (18, ag [iv p2, .bool p3])])
def H79_4 (p1 : (List ((Int × Bool) × (Int × Bool)))) (p2 : Int) (p3 : Bool) (p4 : Int) (p5 : Bool) (o37 : ((Int × Bool) × (Int × Bool))) : List Blk := [ab 86 e86 p1, cl 50 [iv p2, .bool p3], cl 50 [iv p4, .bool p5], cl 86 [iv o37.1.1, .bool o37.1.2, iv o37.2.1, .bool o37.2.2]]
def S79_5 (p1 : (List ((Int × Bool) × (Int × Bool)))) (v17 : Int) : CAct := (st 41 [(4, pt 1 0), (5, pt 2 0), (10, sv 0 p1.length ANY), (11, iv (p1.length : Int)), (12, iv v17), (39, .bool false)])
def S79_6 (p1 : (List ((Int × Bool) × (Int × Bool)))) (v17 : Int) : CAct := (st 41 [(4, pt 1 0), (5, pt 2 0), (10, sv 0 p1.length ANY), (11, iv (p1.length : Int)), (12, iv (w64 (v17 + 1)))])
def H79_7 (p1 : (List ((Int × Bool) × (Int × Bool)))) (p2 : Int) (p3 : Bool) (p4 : Int) (p5 : Bool) : List Blk := [ab 86 e86 p1, cl 50 [iv p2, .bool p3], cl 50 [iv p4, .bool p5], .dead]
def H79_8 (p1 : (List ((Int × Bool) × (Int × Bool)))) (p2 : Int) (p3 : Bool) (p4 : Int) (p5 : Bool) : List Blk := [ab 86 e86 p1, cl 50 [iv p2, .bool p3], cl 50 [iv p4, .bool p5]]
def F79l0 (p1 : (List ((Int × Bool) × (Int × Bool)))) (p2 : Int) (p3 : Bool) (p4 : Int) (p5 : Bool) (v17 : Int) : Option (Unit ⊕ Unit) :=
 if decide (v17 < (p1.length : Int)) then
  if (0 : Int) ≤ v17 ∧ v17 < (p1.length : Int) then
   some (List.getD p1 (Int.toNat v17) ((0, false), (0, false))) >>= fun o37 =>
   F43 p2 p3 >>= fun r39 =>
   (
    if ((o37.1.1 == r39.1) && ((o37.1.2 == r39.2) && true)) then
     if ((o37.2.1 == p4) && ((o37.2.2 == p5) && true)) then
      some (true)
     else
      F43 p2 p3 >>= fun r43 =>
      if ((o37.2.1 == r43.1) && ((o37.2.2 == r43.2) && true)) then
       some (((o37.1.1 == p4) && ((o37.1.2 == p5) && true)))
      else
       some (false)
    else
     F43 p2 p3 >>= fun r46 =>
     if ((o37.2.1 == r46.1) && ((o37.2.2 == r46.2) && true)) then
      some (((o37.1.1 == p4) && ((o37.1.2 == p5) && true)))
     else
      some (false)
   : Option Bool) >>= fun m49 =>
   if m49 then
    some (.inl ())
   else
    F79l0 p1 p2 p3 p4 p5 (w64 (v17 + 1))
  else none
 else
  some (.inr ())
 partial_fixpoint
def F79 (p0 : Int) (p1 : (List ((Int × Bool) × (Int × Bool)))) (p2 : Int) (p3 : Bool) (p4 : Int) (p5 : Bool) : Option Bool :=
 F79l0 p1 p2 p3 p4 p5 0 >>= fun r51 =>
 match r51 with
 | .inl o53 =>
  some true
 | .inr o54 =>
  some false
def V79 (b : Nat) (r : Bool) : Value := .bool r
def N79 (b : Nat) (r : Bool) : List Blk := []
def P79l0 (p1 : (List ((Int × Bool) × (Int × Bool)))) (p2 : Int) (p3 : Bool) (p4 : Int) (p5 : Bool) (r : (Unit ⊕ Unit)) : Post := fun e a h => (match r with | .inl q0 => e = .ret ∧ Wk Try.prog 1 1 a h (st 41 [(6, .bool true)]) [ab 86 e86 p1] | .inr q0 => e = .exit 0 ∧ Wk Try.prog 1 1 a h (st 41 []) [ab 86 e86 p1])
theorem L79l0 (p1 : (List ((Int × Bool) × (Int × Bool)))) (p2 : Int) (p3 : Bool) (p4 : Int) (p5 : Bool) (v17 : Int) (r : (Unit ⊕ Unit)) (hF : F79l0 p1 p2 p3 p4 p5 v17 = some r) : TL Try.prog 1 1 c79.s2.s1.s2.bd.bd (st 41 [(4, pt 1 0), (5, pt 2 0), (10, sv 0 p1.length ANY), (11, iv (p1.length : Int)), (12, iv v17)]) (H79_8 p1 p2 p3 p4 p5) (P79l0 p1 p2 p3 p4 p5 r) := by
 refine F79l0.partial_correctness p1 p2 p3 p4 p5 (motive := fun v17 r => TL Try.prog 1 1 c79.s2.s1.s2.bd.bd (st 41 [(4, pt 1 0), (5, pt 2 0), (10, sv 0 p1.length ANY), (11, iv (p1.length : Int)), (12, iv v17)]) (H79_8 p1 p2 p3 p4 p5) (P79l0 p1 p2 p3 p4 p5 r)) ?_ v17 r hF
 clear hF r v17
 intro again ih v17 r hF
 refine TL.round (TS.sq (TS.rg (TI.ra 1 [4, 5, 10, 11, 12, 13] (st 41 [(4, pt 1 0), (5, pt 2 0), (10, sv 0 p1.length ANY), (11, iv (p1.length : Int)), (12, iv v17), (13, .bool (decide (v17 < (p1.length : Int))))]) (TI.dn (NX.sq (TS.sq ?_))))))
 refine TS.cd (.tmp 13) (decide (v17 < (p1.length : Int))) (fun hc35 => ?_) (fun hc35 => ?_)
 · replace hF := of_pos hF hc35
   refine TS.sk (NX.sq (TS.sq (TS.bk 1 (TS.sq ?_))))
   have hX := of_guard hF
   clear hF
   obtain ⟨hg36, hF⟩ := hX
   have hX := of_do hF
   clear hF
   obtain ⟨o37, h38, hF⟩ := hX
   replace h38 := Option.some.inj h38
   refine TS.rg (TI.o { val := .pointer (some ⟨0, 0 + (Int.toNat v17) * 4, none⟩) } (q_ixS 0 0 ((Int.toNat v17) * 4) (by kernel_rfl) hg36) [4, 5, 10, 11, 12, 14] [0, 1, 2] (st 41 [(4, pt 1 0), (5, pt 2 0), (10, sv 0 p1.length ANY), (11, iv (p1.length : Int)), (12, iv v17), (14, .pointer (some ⟨0, 0 + (Int.toNat v17) * 4, none⟩))]) (H79_8 p1 p2 p3 p4 p5) (TI.o { val := ag [iv o37.1.1, .bool o37.1.2, iv o37.2.1, .bool o37.2.2] } (q_nAa Try.prog (H79_8 p1 p2 p3 p4 p5) 86 0 (0 + (Int.toNat v17) * 4) p1 e86 4 86 (Int.toNat v17) ((0, false), (0, false)) h38) [4, 5, 10, 11, 12, 15] [0, 1, 2] (st 41 [(4, pt 1 0), (5, pt 2 0), (10, sv 0 p1.length ANY), (11, iv (p1.length : Int)), (12, iv v17), (15, ag [iv o37.1.1, .bool o37.1.2, iv o37.2.1, .bool o37.2.2])]) (H79_8 p1 p2 p3 p4 p5) (TI.rn 2 [4, 5, 8, 10, 11, 12] [0, 1, 2, 3] (st 41 [(4, pt 1 0), (5, pt 2 0), (8, pt 3 0), (10, sv 0 p1.length ANY), (11, iv (p1.length : Int)), (12, iv v17)]) (H79_4 p1 p2 p3 p4 p5 o37) (TI.dn (NX.sq (TS.sq ?_))))))
   have hX := of_do hF
   clear hF
   obtain ⟨r39, h40, hF⟩ := hX
   have hX := of_do hF
   clear hF
   obtain ⟨m49, hm50, hF⟩ := hX
   have hK : NX Try.prog 1 1 [.sq c79.s2.s1.s2.bd.bd.s2.s2.s1.bd.s2.s2, .bk 1, .sq c79.s2.s1.s2.bd.bd.s2.s2.s2] (Rd Try.prog 1 1 c79.s2.s1.s2.bd.bd (P79l0 p1 p2 p3 p4 p5 r)) .normal (st 41 [(4, pt 1 0), (5, pt 2 0), (10, sv 0 p1.length ANY), (11, iv (p1.length : Int)), (12, iv v17), (39, .bool m49)]) (H79_7 p1 p2 p3 p4 p5) := by
    refine NX.sq ?_
    cases m49 with
    | true =>
     replace hF := of_pos hF rfl
     refine TS.cdT (.tmp 39) (TS.sq (TS.rg (TI.rn 1 [6] [0] (st 41 [(6, .bool true)]) [ab 86 e86 p1, .dead, .dead, .dead] (TI.dn (NX.sq (TS.rt (NX.bkR (NX.sqR ?_))))))))
     have hF := Option.some.inj hF
     subst hF
     exact Rd.out (e := .ret) (by intro h; cases h) (And.intro rfl (Wk.an [] (.ac (.nil _)) [.bool true] (.fl .nil)))
    | false =>
     replace hF := of_neg hF rfl
     refine TS.cdF (.tmp 39) (TS.sk (NX.bk (NX.sq (TS.rg (TI.ra 2 [4, 5, 10, 11, 12] (S79_6 p1 v17) (TI.dn ?_))))))
     exact Rd.again (a2 := (S79_6 p1 v17)) (h2 := (H79_8 p1 p2 p3 p4 p5)) (Wk.an [1, 2] (.ac (.lt (.fl (.fl .nil)) (.lt (.fl (.fl .nil)) (.nil _)))) [pt 1 0, pt 2 0, sv 0 p1.length ANY, iv (p1.length : Int), iv (w64 (v17 + 1))] (.pp (.pp (.sl (.fl (.fl .nil)))))) (ih (w64 (v17 + 1)) _ hF)
   rcases Bool.eq_false_or_eq_true (((o37.1.1 == r39.1) && ((o37.1.2 == r39.2) && true))) with hc41 | hc41
   · replace hm50 := of_pos hm50 hc41
     rcases Bool.eq_false_or_eq_true (((o37.2.1 == p4) && ((o37.2.2 == p5) && true))) with hc42 | hc42
     · replace hm50 := of_pos hm50 hc42
       have hm50 := Option.some.inj hm50
       subst hm50
       have hT : ∀ e ∈ ([⟨43, [ag [iv p2, .bool p3]], (H79_4 p1 p2 p3 p4 p5 o37), ag [iv r39.1, .bool r39.2], []⟩] : List Entry), PureSim Try.prog e.g e.args e.h e.v e.new := by
        intro e he
        simp only [List.mem_cons, List.not_mem_nil, or_false] at he
        rcases he with rfl
        exact PureSim.ak (C43 _ _ _ h40)
       refine TS.dp [⟨43, [ag [iv p2, .bool p3]], (H79_4 p1 p2 p3 p4 p5 o37), ag [iv r39.1, .bool r39.2], []⟩] hT mixed 21 [4, 5, 10, 11, 12, 39] [0, 1, 2] (st 41 [(4, pt 1 0), (5, pt 2 0), (10, sv 0 p1.length ANY), (11, iv (p1.length : Int)), (12, iv v17), (39, .bool true)]) (H79_7 p1 p2 p3 p4 p5) ?_ ?_
       · exact QJ.rn (qs (S79_3 p1 v17 o37 p2 p3) (H79_4 p1 p2 p3 p4 p5 o37) [] []) 3 (QJ.o { val := ag [iv r39.1, .bool r39.2], new := [] } (qOf_call (g := 43) (args := [ag [iv p2, .bool p3]]) (by kernel_rfl) lookC_hit) (QJ.o { val := .bool true } (q_conv (e := ((o37.1.1 == r39.1) && ((o37.1.2 == r39.2) && true))) (b := true) (by kernel_rfl) hc41) (QJ.rn (qs (S79_2 p1 v17 o37 p2 p3 r39 p4 p5) (H79_4 p1 p2 p3 p4 p5 o37) [] []) 4 (QJ.o { val := .bool true } (q_conv (e := ((o37.2.1 == p4) && ((o37.2.2 == p5) && true))) (b := true) (by kernel_rfl) hc42) (QJ.rn (qs (st 41 [(4, pt 1 0), (5, pt 2 0), (8, pt 3 0), (10, sv 0 p1.length ANY), (11, iv (p1.length : Int)), (12, iv v17), (16, pt 3 0), (17, ag [iv o37.1.1, .bool o37.1.2]), (18, ag [iv p2, .bool p3]), (19, ag [iv r39.1, .bool r39.2]), (20, .bool true), (21, .bool true), (22, pt 3 2), (23, ag [iv o37.2.1, .bool o37.2.2]), (24, ag [iv p4, .bool p5]), (25, .bool true), (26, .bool true), (27, .bool true), (28, undef), (29, undef), (30, undef), (31, undef), (32, undef), (33, undef), (34, undef), (35, undef), (36, undef)]) (H79_4 p1 p2 p3 p4 p5 o37) [] []) 11 (QJ.dn ⟨rfl, SJ.la⟩))))))
       exact hK
     replace hm50 := of_neg hm50 hc42
     have hX := of_do hm50
     clear hm50
     obtain ⟨r43, h44, hm50⟩ := hX
     rcases Bool.eq_false_or_eq_true (((o37.2.1 == r43.1) && ((o37.2.2 == r43.2) && true))) with hc45 | hc45
     · replace hm50 := of_pos hm50 hc45
       have hm50 := Option.some.inj hm50
       subst hm50
       have hT : ∀ e ∈ ([⟨43, [ag [iv p2, .bool p3]], (H79_4 p1 p2 p3 p4 p5 o37), ag [iv r39.1, .bool r39.2], []⟩, ⟨43, [ag [iv p2, .bool p3]], (H79_4 p1 p2 p3 p4 p5 o37), ag [iv r43.1, .bool r43.2], []⟩] : List Entry), PureSim Try.prog e.g e.args e.h e.v e.new := by
        intro e he
        simp only [List.mem_cons, List.not_mem_nil, or_false] at he
        rcases he with rfl | rfl
        · exact PureSim.ak (C43 _ _ _ h40)
        exact PureSim.ak (C43 _ _ _ h44)
       refine TS.dp [⟨43, [ag [iv p2, .bool p3]], (H79_4 p1 p2 p3 p4 p5 o37), ag [iv r39.1, .bool r39.2], []⟩, ⟨43, [ag [iv p2, .bool p3]], (H79_4 p1 p2 p3 p4 p5 o37), ag [iv r43.1, .bool r43.2], []⟩] hT mixed 21 [4, 5, 10, 11, 12, 39] [0, 1, 2] (st 41 [(4, pt 1 0), (5, pt 2 0), (10, sv 0 p1.length ANY), (11, iv (p1.length : Int)), (12, iv v17), (39, .bool ((o37.1.1 == p4) && ((o37.1.2 == p5) && true)))]) (H79_7 p1 p2 p3 p4 p5) ?_ ?_
       · refine QJ.rn (qs (S79_3 p1 v17 o37 p2 p3) (H79_4 p1 p2 p3 p4 p5 o37) [] []) 3 (QJ.o { val := ag [iv r39.1, .bool r39.2], new := [] } (qOf_call (g := 43) (args := [ag [iv p2, .bool p3]]) (by kernel_rfl) lookC_hit) (QJ.o { val := .bool true } (q_conv (e := ((o37.1.1 == r39.1) && ((o37.1.2 == r39.2) && true))) (b := true) (by kernel_rfl) hc41) (QJ.rn (qs (S79_2 p1 v17 o37 p2 p3 r39 p4 p5) (H79_4 p1 p2 p3 p4 p5 o37) [] []) 4 (QJ.o { val := .bool false } (q_conv (e := ((o37.2.1 == p4) && ((o37.2.2 == p5) && true))) (b := false) (by kernel_rfl) hc42) (QJ.rn (qs (S79_0 p1 v17 o37 p2 p3 r39 p4 p5) (H79_4 p1 p2 p3 p4 p5 o37) [] []) 5 ?_)))))
         exact QJ.o { val := ag [iv r43.1, .bool r43.2], new := [] } (qOf_call (g := 43) (args := [ag [iv p2, .bool p3]]) (by kernel_rfl) (lookC_skip (by intro _ ha hh; first | (exact absurd (congrArg List.length hh) (Nat.ne_of_beq_eq_false rfl)) | (have hr := Option.some.inj (h40.symm.trans (Eq.trans (congr (congrArg F43 (Eq.refl p2)) (Eq.refl p3)) h44)); first | (subst hr; rfl) | (cases hr; done) | (cases hr; rfl))) lookC_hit)) (QJ.o { val := .bool true } (q_conv (e := ((o37.2.1 == r43.1) && ((o37.2.2 == r43.2) && true))) (b := true) (by kernel_rfl) hc45) (QJ.rn (qs (st 41 [(4, pt 1 0), (5, pt 2 0), (8, pt 3 0), (10, sv 0 p1.length ANY), (11, iv (p1.length : Int)), (12, iv v17), (16, pt 3 0), (17, ag [iv o37.1.1, .bool o37.1.2]), (18, ag [iv p2, .bool p3]), (19, ag [iv r39.1, .bool r39.2]), (20, .bool true), (21, .bool true), (22, pt 3 2), (23, ag [iv o37.2.1, .bool o37.2.2]), (24, ag [iv p4, .bool p5]), (25, .bool false), (26, .bool false), (27, .bool false), (28, pt 3 2), (29, ag [iv o37.2.1, .bool o37.2.2]), (30, ag [iv p2, .bool p3]), (31, ag [iv r43.1, .bool r43.2]), (32, .bool true), (33, .bool true), (34, pt 3 0), (35, ag [iv o37.1.1, .bool o37.1.2]), (36, ag [iv p4, .bool p5])]) (H79_4 p1 p2 p3 p4 p5 o37) [] []) 4 (QJ.dn ⟨rfl, SJ.la⟩)))
       exact hK
     replace hm50 := of_neg hm50 hc45
     have hm50 := Option.some.inj hm50
     subst hm50
     have hT : ∀ e ∈ ([⟨43, [ag [iv p2, .bool p3]], (H79_4 p1 p2 p3 p4 p5 o37), ag [iv r39.1, .bool r39.2], []⟩, ⟨43, [ag [iv p2, .bool p3]], (H79_4 p1 p2 p3 p4 p5 o37), ag [iv r43.1, .bool r43.2], []⟩] : List Entry), PureSim Try.prog e.g e.args e.h e.v e.new := by
      intro e he
      simp only [List.mem_cons, List.not_mem_nil, or_false] at he
      rcases he with rfl | rfl
      · exact PureSim.ak (C43 _ _ _ h40)
      exact PureSim.ak (C43 _ _ _ h44)
     refine TS.dp [⟨43, [ag [iv p2, .bool p3]], (H79_4 p1 p2 p3 p4 p5 o37), ag [iv r39.1, .bool r39.2], []⟩, ⟨43, [ag [iv p2, .bool p3]], (H79_4 p1 p2 p3 p4 p5 o37), ag [iv r43.1, .bool r43.2], []⟩] hT mixed 21 [4, 5, 10, 11, 12, 39] [0, 1, 2] (S79_5 p1 v17) (H79_7 p1 p2 p3 p4 p5) ?_ ?_
     · refine QJ.rn (qs (S79_3 p1 v17 o37 p2 p3) (H79_4 p1 p2 p3 p4 p5 o37) [] []) 3 (QJ.o { val := ag [iv r39.1, .bool r39.2], new := [] } (qOf_call (g := 43) (args := [ag [iv p2, .bool p3]]) (by kernel_rfl) lookC_hit) (QJ.o { val := .bool true } (q_conv (e := ((o37.1.1 == r39.1) && ((o37.1.2 == r39.2) && true))) (b := true) (by kernel_rfl) hc41) (QJ.rn (qs (S79_2 p1 v17 o37 p2 p3 r39 p4 p5) (H79_4 p1 p2 p3 p4 p5 o37) [] []) 4 (QJ.o { val := .bool false } (q_conv (e := ((o37.2.1 == p4) && ((o37.2.2 == p5) && true))) (b := false) (by kernel_rfl) hc42) (QJ.rn (qs (S79_0 p1 v17 o37 p2 p3 r39 p4 p5) (H79_4 p1 p2 p3 p4 p5 o37) [] []) 5 ?_)))))
       exact QJ.o { val := ag [iv r43.1, .bool r43.2], new := [] } (qOf_call (g := 43) (args := [ag [iv p2, .bool p3]]) (by kernel_rfl) (lookC_skip (by intro _ ha hh; first | (exact absurd (congrArg List.length hh) (Nat.ne_of_beq_eq_false rfl)) | (have hr := Option.some.inj (h40.symm.trans (Eq.trans (congr (congrArg F43 (Eq.refl p2)) (Eq.refl p3)) h44)); first | (subst hr; rfl) | (cases hr; done) | (cases hr; rfl))) lookC_hit)) (QJ.o { val := .bool false } (q_conv (e := ((o37.2.1 == r43.1) && ((o37.2.2 == r43.2) && true))) (b := false) (by kernel_rfl) hc45) (QJ.rn (qs (st 41 [(4, pt 1 0), (5, pt 2 0), (8, pt 3 0), (10, sv 0 p1.length ANY), (11, iv (p1.length : Int)), (12, iv v17), (16, pt 3 0), (17, ag [iv o37.1.1, .bool o37.1.2]), (18, ag [iv p2, .bool p3]), (19, ag [iv r39.1, .bool r39.2]), (20, .bool true), (21, .bool true), (22, pt 3 2), (23, ag [iv o37.2.1, .bool o37.2.2]), (24, ag [iv p4, .bool p5]), (25, .bool false), (26, .bool false), (27, .bool false), (28, pt 3 2), (29, ag [iv o37.2.1, .bool o37.2.2]), (30, ag [iv p2, .bool p3]), (31, ag [iv r43.1, .bool r43.2]), (32, .bool false), (33, .bool false), (34, undef), (35, undef), (36, undef)]) (H79_4 p1 p2 p3 p4 p5 o37) [] []) 4 (QJ.dn ⟨rfl, SJ.la⟩)))
     exact hK
   replace hm50 := of_neg hm50 hc41
   have hX := of_do hm50
   clear hm50
   obtain ⟨r46, h47, hm50⟩ := hX
   rcases Bool.eq_false_or_eq_true (((o37.2.1 == r46.1) && ((o37.2.2 == r46.2) && true))) with hc48 | hc48
   · replace hm50 := of_pos hm50 hc48
     have hm50 := Option.some.inj hm50
     subst hm50
     have hT : ∀ e ∈ ([⟨43, [ag [iv p2, .bool p3]], (H79_4 p1 p2 p3 p4 p5 o37), ag [iv r39.1, .bool r39.2], []⟩, ⟨43, [ag [iv p2, .bool p3]], (H79_4 p1 p2 p3 p4 p5 o37), ag [iv r46.1, .bool r46.2], []⟩] : List Entry), PureSim Try.prog e.g e.args e.h e.v e.new := by
      intro e he
      simp only [List.mem_cons, List.not_mem_nil, or_false] at he
      rcases he with rfl | rfl
      · exact PureSim.ak (C43 _ _ _ h40)
      exact PureSim.ak (C43 _ _ _ h47)
     refine TS.dp [⟨43, [ag [iv p2, .bool p3]], (H79_4 p1 p2 p3 p4 p5 o37), ag [iv r39.1, .bool r39.2], []⟩, ⟨43, [ag [iv p2, .bool p3]], (H79_4 p1 p2 p3 p4 p5 o37), ag [iv r46.1, .bool r46.2], []⟩] hT mixed 21 [4, 5, 10, 11, 12, 39] [0, 1, 2] (st 41 [(4, pt 1 0), (5, pt 2 0), (10, sv 0 p1.length ANY), (11, iv (p1.length : Int)), (12, iv v17), (39, .bool ((o37.1.1 == p4) && ((o37.1.2 == p5) && true)))]) (H79_7 p1 p2 p3 p4 p5) ?_ ?_
     · refine QJ.rn (qs (S79_3 p1 v17 o37 p2 p3) (H79_4 p1 p2 p3 p4 p5 o37) [] []) 3 (QJ.o { val := ag [iv r39.1, .bool r39.2], new := [] } (qOf_call (g := 43) (args := [ag [iv p2, .bool p3]]) (by kernel_rfl) lookC_hit) (QJ.o { val := .bool false } (q_conv (e := ((o37.1.1 == r39.1) && ((o37.1.2 == r39.2) && true))) (b := false) (by kernel_rfl) hc41) (QJ.rn (qs (S79_1 p1 v17 o37 p2 p3 r39) (H79_4 p1 p2 p3 p4 p5 o37) [] []) 10 ?_)))
       exact QJ.o { val := ag [iv r46.1, .bool r46.2], new := [] } (qOf_call (g := 43) (args := [ag [iv p2, .bool p3]]) (by kernel_rfl) (lookC_skip (by intro _ ha hh; first | (exact absurd (congrArg List.length hh) (Nat.ne_of_beq_eq_false rfl)) | (have hr := Option.some.inj (h40.symm.trans (Eq.trans (congr (congrArg F43 (Eq.refl p2)) (Eq.refl p3)) h47)); first | (subst hr; rfl) | (cases hr; done) | (cases hr; rfl))) lookC_hit)) (QJ.o { val := .bool true } (q_conv (e := ((o37.2.1 == r46.1) && ((o37.2.2 == r46.2) && true))) (b := true) (by kernel_rfl) hc48) (QJ.rn (qs (st 41 [(4, pt 1 0), (5, pt 2 0), (8, pt 3 0), (10, sv 0 p1.length ANY), (11, iv (p1.length : Int)), (12, iv v17), (16, pt 3 0), (17, ag [iv o37.1.1, .bool o37.1.2]), (18, ag [iv p2, .bool p3]), (19, ag [iv r39.1, .bool r39.2]), (20, .bool false), (21, .bool false), (22, undef), (23, undef), (24, undef), (25, undef), (26, .bool false), (27, .bool false), (28, pt 3 2), (29, ag [iv o37.2.1, .bool o37.2.2]), (30, ag [iv p2, .bool p3]), (31, ag [iv r46.1, .bool r46.2]), (32, .bool true), (33, .bool true), (34, pt 3 0), (35, ag [iv o37.1.1, .bool o37.1.2]), (36, ag [iv p4, .bool p5])]) (H79_4 p1 p2 p3 p4 p5 o37) [] []) 4 (QJ.dn ⟨rfl, SJ.la⟩)))
     exact hK
   replace hm50 := of_neg hm50 hc48
   have hm50 := Option.some.inj hm50
   subst hm50
   have hT : ∀ e ∈ ([⟨43, [ag [iv p2, .bool p3]], (H79_4 p1 p2 p3 p4 p5 o37), ag [iv r39.1, .bool r39.2], []⟩, ⟨43, [ag [iv p2, .bool p3]], (H79_4 p1 p2 p3 p4 p5 o37), ag [iv r46.1, .bool r46.2], []⟩] : List Entry), PureSim Try.prog e.g e.args e.h e.v e.new := by
    intro e he
    simp only [List.mem_cons, List.not_mem_nil, or_false] at he
    rcases he with rfl | rfl
    · exact PureSim.ak (C43 _ _ _ h40)
    exact PureSim.ak (C43 _ _ _ h47)
   refine TS.dp [⟨43, [ag [iv p2, .bool p3]], (H79_4 p1 p2 p3 p4 p5 o37), ag [iv r39.1, .bool r39.2], []⟩, ⟨43, [ag [iv p2, .bool p3]], (H79_4 p1 p2 p3 p4 p5 o37), ag [iv r46.1, .bool r46.2], []⟩] hT mixed 21 [4, 5, 10, 11, 12, 39] [0, 1, 2] (S79_5 p1 v17) (H79_7 p1 p2 p3 p4 p5) ?_ ?_
   · refine QJ.rn (qs (S79_3 p1 v17 o37 p2 p3) (H79_4 p1 p2 p3 p4 p5 o37) [] []) 3 (QJ.o { val := ag [iv r39.1, .bool r39.2], new := [] } (qOf_call (g := 43) (args := [ag [iv p2, .bool p3]]) (by kernel_rfl) lookC_hit) (QJ.o { val := .bool false } (q_conv (e := ((o37.1.1 == r39.1) && ((o37.1.2 == r39.2) && true))) (b := false) (by kernel_rfl) hc41) (QJ.rn (qs (S79_1 p1 v17 o37 p2 p3 r39) (H79_4 p1 p2 p3 p4 p5 o37) [] []) 10 ?_)))
     exact QJ.o { val := ag [iv r46.1, .bool r46.2], new := [] } (qOf_call (g := 43) (args := [ag [iv p2, .bool p3]]) (by kernel_rfl) (lookC_skip (by intro _ ha hh; first | (exact absurd (congrArg List.length hh) (Nat.ne_of_beq_eq_false rfl)) | (have hr := Option.some.inj (h40.symm.trans (Eq.trans (congr (congrArg F43 (Eq.refl p2)) (Eq.refl p3)) h47)); first | (subst hr; rfl) | (cases hr; done) | (cases hr; rfl))) lookC_hit)) (QJ.o { val := .bool false } (q_conv (e := ((o37.2.1 == r46.1) && ((o37.2.2 == r46.2) && true))) (b := false) (by kernel_rfl) hc48) (QJ.rn (qs (st 41 [(4, pt 1 0), (5, pt 2 0), (8, pt 3 0), (10, sv 0 p1.length ANY), (11, iv (p1.length : Int)), (12, iv v17), (16, pt 3 0), (17, ag [iv o37.1.1, .bool o37.1.2]), (18, ag [iv p2, .bool p3]), (19, ag [iv r39.1, .bool r39.2]), (20, .bool false), (21, .bool false), (22, undef), (23, undef), (24, undef), (25, undef), (26, .bool false), (27, .bool false), (28, pt 3 2), (29, ag [iv o37.2.1, .bool o37.2.2]), (30, ag [iv p2, .bool p3]), (31, ag [iv r46.1, .bool r46.2]), (32, .bool false), (33, .bool false), (34, undef), (35, undef), (36, undef)]) (H79_4 p1 p2 p3 p4 p5 o37) [] []) 4 (QJ.dn ⟨rfl, SJ.la⟩)))
   exact hK
 replace hF := of_neg hF hc35
 refine TS.ex 0 (NX.sqX ?_)
 have hF := Option.some.inj hF
 subst hF
 exact Rd.out (e := .exit 0) (by intro h; cases h) (And.intro rfl (Wk.an [] (.ac (.nil _)) [] .nil))
theorem B79 (p0 : Int) (p1 : (List ((Int × Bool) × (Int × Bool)))) (p2 : Int) (p3 : Bool) (p4 : Int) (p5 : Bool) (r : Bool) (hF : F79 p0 p1 p2 p3 p4 p5 = some r) : TS Try.prog 1 1 c79 (st 41 [(0, ag [iv p0, sv 0 p1.length ANY]), (1, ag [iv p2, .bool p3]), (2, ag [iv p4, .bool p5])]) [ab 86 e86 p1] (NX Try.prog 1 1 [] (FinP Try.prog Try.f79 1 (V79 1 r) (N79 1 r))) := by
 unfold F79 at hF
 refine TS.sq (TS.rg (TI.rn 4 [3, 4, 5] [0, 1, 2, 3] (st 41 [(3, pt 1 0), (4, pt 2 0), (5, pt 3 0)]) [ab 86 e86 p1, cl 24 [iv p0, sv 0 p1.length ANY], cl 50 [iv p2, .bool p3], cl 50 [iv p4, .bool p5]] (TI.dn (NX.sq (TS.sq (TS.sq (TS.rg (TI.rn 4 [4, 5, 10, 11, 12] [0, 2, 3] (st 41 [(4, pt 2 0), (5, pt 3 0), (10, sv 0 p1.length ANY), (11, iv (p1.length : Int)), (12, iv 0)]) [ab 86 e86 p1, .dead, cl 50 [iv p2, .bool p3], cl 50 [iv p4, .bool p5]] ?_))))))))
 refine TI.dn (NX.sq (TS.bk 0 ?_))
 have hX := of_do hF
 clear hF
 obtain ⟨r51, h52, hF⟩ := hX
 refine TS.lp (TL.weak (a2 := (st 41 [(4, pt 1 0), (5, pt 2 0), (10, sv 0 p1.length ANY), (11, iv (p1.length : Int)), (12, iv 0)])) (h2 := (H79_8 p1 p2 p3 p4 p5)) (Wk.an [2, 3] (.ac (.lt (.fl (.fl .nil)) (.lt (.fl (.fl .nil)) (.nil _)))) [pt 2 0, pt 3 0, sv 0 p1.length ANY, iv (p1.length : Int), iv 0] (.pp (.pp (.sl (.fl (.fl .nil)))))) (TL.post (L79l0 p1 p2 p3 p4 p5 0 r51 h52) ?_))
 rintro e a1 h1 hp
 rcases r51 with o53 | o54
 · skip
   obtain ⟨rfl, hw⟩ := hp
   refine ⟨(st 41 [(6, .bool true)]), [ab 86 e86 p1], (NX.bkR (NX.sqR ?_)), hw⟩
   have hF := Option.some.inj hF
   subst hF
   exact ⟨.inr rfl, rfl, .bool true, by kernel_rfl, WkV.flat0 (by kernel_rfl) (Nat.le_of_ble_eq_true rfl)⟩
 skip
 obtain ⟨rfl, hw⟩ := hp
 refine ⟨(st 41 []), [ab 86 e86 p1], (NX.bkX (NX.sq (TS.sq (TS.rg (TI.ra 1 [6] (st 41 [(6, .bool false)]) (TI.dn (NX.sq (TS.rt ?_)))))))), hw⟩
 have hF := Option.some.inj hF
 subst hF
 exact ⟨.inr rfl, rfl, .bool false, by kernel_rfl, WkV.flat0 (by kernel_rfl) (Nat.le_of_ble_eq_true rfl)⟩
theorem C79 (p0 : Int) (p1 : (List ((Int × Bool) × (Int × Bool)))) (p2 : Int) (p3 : Bool) (p4 : Int) (p5 : Bool) (r : Bool) (hF : F79 p0 p1 p2 p3 p4 p5 = some r) : PureSim Try.prog 79 [ag [iv p0, sv 0 p1.length ANY], ag [iv p2, .bool p3], ag [iv p4, .bool p5]] [ab 86 e86 p1] (V79 1 r) (N79 1 r) :=
 PureSim.of_Fin Try.func79 (c := c79) (by kernel_rfl) (by kernel_rfl) 1 rfl [0, 1, 2] [0] (by kernel_rfl) (B79 p0 p1 p2 p3 p4 p5 r hF)
noncomputable def c47 : Code := Try.f47.code
def F47 (p0 : Int) (p1 : Bool) (p2 : Int) : Option Bool :=
 if (0 : Int) ≤ p0 then
  some (((and64 (shr64 p2 p0) 1) == 1) == p1)
 else none
def V47 (b : Nat) (r : Bool) : Value := .bool r
def N47 (b : Nat) (r : Bool) : List Blk := []
theorem B47 (p0 : Int) (p1 : Bool) (p2 : Int) (r : Bool) (hF : F47 p0 p1 p2 = some r) : TS Try.prog 0 0 c47 (st 14 [(0, ag [iv p0, .bool p1]), (1, iv p2)]) [] (NX Try.prog 0 0 [] (FinP Try.prog Try.f47 0 (V47 0 r) (N47 0 r))) := by
 unfold F47 at hF
 refine TS.sq (TS.rg (TI.rn 2 [1, 2] [0] (st 14 [(1, iv p2), (2, pt 0 0)]) [cl 50 [iv p0, .bool p1]] (TI.dn (NX.sq (TS.sq ?_)))))
 have hX := of_guard hF
 clear hF
 obtain ⟨hg1, hF⟩ := hX
 refine TS.dp [] (fun e he => by cases he) mixed 8 [4] [] (st 14 [(4, .bool (((and64 (shr64 p2 p0) 1) == 1) == p1))]) [.dead] ?_ ?_
 · exact QJ.rn (qs (st 14 [(1, iv p2), (2, pt 0 0), (5, iv p2), (6, pt 0 0), (7, iv p0)]) [cl 50 [iv p0, .bool p1]] [] []) 3 (QJ.o { val := iv (shr64 p2 p0) } (q_shr (P := Try.prog) (ty := 3) (ox := (.tmp 5)) (oy := (.tmp 7)) (by kernel_rfl) hg1) (QJ.o { val := iv (and64 (shr64 p2 p0) 1) } (q_and (P := Try.prog) (ty := 3) (ox := (.tmp 8)) (oy := (.const (iv 1))) (by kernel_rfl)) (QJ.rn (qs (st 14 [(1, iv p2), (2, pt 0 0), (5, iv p2), (6, pt 0 0), (7, iv p0), (8, iv (shr64 p2 p0)), (9, iv (and64 (shr64 p2 p0) 1)), (10, .bool ((and64 (shr64 p2 p0) 1) == 1)), (11, pt 0 1), (12, .bool p1)]) [cl 50 [iv p0, .bool p1]] [] []) 3 (QJ.dn ⟨rfl, SJ.la⟩))))
 refine TS.rt ?_
 have hF := Option.some.inj hF
 subst hF
 exact ⟨.inr rfl, rfl, .bool (((and64 (shr64 p2 p0) 1) == 1) == p1), by kernel_rfl, WkV.flat0 (by kernel_rfl) (Nat.le_of_ble_eq_true rfl)⟩
theorem C47 (p0 : Int) (p1 : Bool) (p2 : Int) (r : Bool) (hF : F47 p0 p1 p2 = some r) : PureSim Try.prog 47 [ag [iv p0, .bool p1], iv p2] [] (V47 0 r) (N47 0 r) :=
 PureSim.of_Fin Try.func47 (c := c47) (by kernel_rfl) (by kernel_rfl) 0 rfl [0, 1] [] (by kernel_rfl) (B47 p0 p1 p2 r hF)
noncomputable def c41 : Code := Try.f41.code
def S41_0 (p2 : (List (Int × Bool))) (v70 : (List Int)) (v69 : Int) (p1 : (List ((Int × Bool) × (Int × Bool)))) (v155 : Int) (o170 : ((Int × Bool) × (Int × Bool))) : CAct := (st 59 [(1, sv 1 p2.length ANY), (2, pt 2 0), (5, accV 3 v70.length), (6, iv v69), (9, pt 4 0), (20, sv 0 p1.length ANY), (21, iv (p1.length : Int)), (22, iv v155), (27, .bool true), (29, ag [iv o170.1.1, .bool o170.1.2]), (30, iv v69)])
def S41_1 (p2 : (List (Int × Bool))) (v70 : (List Int)) (v69 : Int) (m206 : Bool) (v189 : Int) : CAct := (st 59 [(1, sv 1 p2.length ANY), (2, pt 2 0), (5, accV 3 v70.length), (6, iv v69), (7, .bool m206), (40, sv 1 p2.length ANY), (41, iv (p2.length : Int)), (42, iv (w64 (v189 + 1)))])
def S41_2 (p2 : (List (Int × Bool))) (v70 : (List Int)) (v69 : Int) (v188 : Bool) (v189 : Int) : CAct := (st 59 [(1, sv 1 p2.length ANY), (2, pt 2 0), (5, accV 3 v70.length), (6, iv v69), (7, .bool v188), (40, sv 1 p2.length ANY), (41, iv (p2.length : Int)), (42, iv v189)])
def S41_3 (p2 : (List (Int × Bool))) (v70 : (List Int)) (v69 : Int) (p1 : (List ((Int × Bool) × (Int × Bool)))) : CAct := (st 59 [(1, sv 1 p2.length ANY), (2, pt 2 0), (5, accV 3 v70.length), (6, iv v69), (7, .bool true), (20, sv 0 p1.length ANY), (21, iv (p1.length : Int)), (22, iv 0)])
def S41_4 (p2 : (List (Int × Bool))) (v70 : (List Int)) (v69 : Int) (r178 : Bool) : CAct := (st 59 [(1, sv 1 p2.length ANY), (2, pt 2 0), (5, accV 3 v70.length), (6, iv v69), (7, .bool r178), (40, sv 1 p2.length ANY), (41, iv (p2.length : Int)), (42, iv 0)])
def H41_5 (p1 : (List ((Int × Bool) × (Int × Bool)))) (p2 : (List (Int × Bool))) (p0 : Int) (v70 : (List Int)) : List Blk := [ab 86 e86 p1, ab 50 e50 p2, cl 24 [iv p0, sv 0 p1.length ANY], ab 3 e3 v70, .dead]
def H41_6 (p1 : (List ((Int × Bool) × (Int × Bool)))) (p2 : (List (Int × Bool))) (p0 : Int) (m212 : (List Int)) : List Blk := [ab 86 e86 p1, ab 50 e50 p2, cl 24 [iv p0, sv 0 p1.length ANY], ab 3 e3 m212]
def H41_7 (p1 : (List ((Int × Bool) × (Int × Bool)))) (p2 : (List (Int × Bool))) (p0 : Int) (v70 : (List Int)) : List Blk := [ab 86 e86 p1, ab 50 e50 p2, cl 24 [iv p0, sv 0 p1.length ANY], ab 3 e3 v70]
def F41l1 (p0 : Int) (p1 : (List ((Int × Bool) × (Int × Bool)))) (p2 : (List (Int × Bool))) (v69 : Int) (v70 : (List Int)) (v154 : Bool) (v155 : Int) : Option Bool :=
 if decide (v155 < (p1.length : Int)) then
  if (0 : Int) ≤ v155 ∧ v155 < (p1.length : Int) then
   some (List.getD p1 (Int.toNat v155) ((0, false), (0, false))) >>= fun o170 =>
   (
    if v154 then
     F47 o170.1.1 o170.1.2 v69 >>= fun r172 =>
     if r172 then
      some (true)
     else
      F47 o170.2.1 o170.2.2 v69 >>= fun r174 =>
      some (r174)
    else
     some (false)
   : Option Bool) >>= fun m176 =>
   F41l1 p0 p1 p2 v69 v70 m176 (w64 (v155 + 1))
  else none
 else
  some v154
 partial_fixpoint
def F41l2 (p0 : Int) (p1 : (List ((Int × Bool) × (Int × Bool)))) (p2 : (List (Int × Bool))) (v69 : Int) (v70 : (List Int)) (v188 : Bool) (v189 : Int) : Option Bool :=
 if decide (v189 < (p2.length : Int)) then
  if (0 : Int) ≤ v189 ∧ v189 < (p2.length : Int) then
   some (List.getD p2 (Int.toNat v189) (0, false)) >>= fun o202 =>
   (
    if v188 then
     F47 o202.1 o202.2 v69 >>= fun r204 =>
     some (r204)
    else
     some (false)
   : Option Bool) >>= fun m206 =>
   F41l2 p0 p1 p2 v69 v70 m206 (w64 (v189 + 1))
  else none
 else
  some v188
 partial_fixpoint
def F41l0 (p0 : Int) (p1 : (List ((Int × Bool) × (Int × Bool)))) (p2 : (List (Int × Bool))) (v70 : (List Int)) (v69 : Int) : Option (List Int) :=
 if (0 : Int) ≤ p0 then
  if decide (v69 < (shl64 1 p0)) then
   F41l1 p0 p1 p2 v69 v70 true 0 >>= fun r178 =>
   F41l2 p0 p1 p2 v69 v70 r178 0 >>= fun r208 =>
   (
    if r208 then
     if List.length v70 ≤ 1000000000 then
      some (v70 ++ [v69])
     else none
    else
     some v70
   : Option (List Int)) >>= fun m212 =>
   F41l0 p0 p1 p2 m212 (w64 (v69 + 1))
  else
   some v70
 else none
 partial_fixpoint
def F41 (p0 : Int) (p1 : (List ((Int × Bool) × (Int × Bool)))) (p2 : (List (Int × Bool))) : Option (List Int) :=
 F41l0 p0 p1 p2 ([]) 0 >>= fun r215 =>
 some r215
def V41 (b : Nat) (r : (List Int)) : Value := accV (b + 0) r.length
def N41 (b : Nat) (r : (List Int)) : List Blk := [ab 3 e3 r]
def P41l1 (p0 : Int) (p1 : (List ((Int × Bool) × (Int × Bool)))) (p2 : (List (Int × Bool))) (v69 : Int) (v70 : (List Int)) (r : Bool) : Post := fun e a h => e = .exit 2 ∧ Wk Try.prog 2 2 a h (st 59 [(1, sv 1 p2.length ANY), (2, pt 2 0), (5, accV 3 v70.length), (6, iv v69), (7, .bool r)]) (H41_7 p1 p2 p0 v70)
theorem L41l1 (p0 : Int) (p1 : (List ((Int × Bool) × (Int × Bool)))) (p2 : (List (Int × Bool))) (v69 : Int) (v70 : (List Int)) (v154 : Bool) (v155 : Int) (r : Bool) (hF : F41l1 p0 p1 p2 v69 v70 v154 v155 = some r) : TL Try.prog 2 2 c41.s2.s2.s1.s2.bd.bd.s2.s1.bd.s2.s1.s2.bd.bd (st 59 [(1, sv 1 p2.length ANY), (2, pt 2 0), (5, accV 3 v70.length), (6, iv v69), (7, .bool v154), (20, sv 0 p1.length ANY), (21, iv (p1.length : Int)), (22, iv v155)]) (H41_7 p1 p2 p0 v70) (P41l1 p0 p1 p2 v69 v70 r) := by
 refine F41l1.partial_correctness p0 p1 p2 v69 v70 (motive := fun v154 v155 r => TL Try.prog 2 2 c41.s2.s2.s1.s2.bd.bd.s2.s1.bd.s2.s1.s2.bd.bd (st 59 [(1, sv 1 p2.length ANY), (2, pt 2 0), (5, accV 3 v70.length), (6, iv v69), (7, .bool v154), (20, sv 0 p1.length ANY), (21, iv (p1.length : Int)), (22, iv v155)]) (H41_7 p1 p2 p0 v70) (P41l1 p0 p1 p2 v69 v70 r)) ?_ v154 v155 r hF
 clear hF r v154 v155
 intro again ih v154 v155 r hF
 refine TL.round (TS.sq (TS.rg (TI.ra 1 [1, 2, 5, 6, 7, 20, 21, 22, 23] (st 59 [(1, sv 1 p2.length ANY), (2, pt 2 0), (5, accV 3 v70.length), (6, iv v69), (7, .bool v154), (20, sv 0 p1.length ANY), (21, iv (p1.length : Int)), (22, iv v155), (23, .bool (decide (v155 < (p1.length : Int))))]) (TI.dn (NX.sq (TS.sq ?_))))))
 refine TS.cd (.tmp 23) (decide (v155 < (p1.length : Int))) (fun hc168 => ?_) (fun hc168 => ?_)
 · replace hF := of_pos hF hc168
   refine TS.sk (NX.sq (TS.sq (TS.bk 3 (TS.sq ?_))))
   have hX := of_guard hF
   clear hF
   obtain ⟨hg169, hF⟩ := hX
   have hX := of_do hF
   clear hF
   obtain ⟨o170, h171, hF⟩ := hX
   replace h171 := Option.some.inj h171
   refine TS.rg (TI.o { val := .pointer (some ⟨0, 0 + (Int.toNat v155) * 4, none⟩) } (q_ixS 0 0 ((Int.toNat v155) * 4) (by kernel_rfl) hg169) [1, 2, 5, 6, 7, 20, 21, 22, 24] [0, 1, 2, 3] (st 59 [(1, sv 1 p2.length ANY), (2, pt 2 0), (5, accV 3 v70.length), (6, iv v69), (7, .bool v154), (20, sv 0 p1.length ANY), (21, iv (p1.length : Int)), (22, iv v155), (24, .pointer (some ⟨0, 0 + (Int.toNat v155) * 4, none⟩))]) (H41_7 p1 p2 p0 v70) (TI.o { val := ag [iv o170.1.1, .bool o170.1.2, iv o170.2.1, .bool o170.2.2] } (q_nAa Try.prog (H41_7 p1 p2 p0 v70) 86 0 (0 + (Int.toNat v155) * 4) p1 e86 4 86 (Int.toNat v155) ((0, false), (0, false)) h171) [1, 2, 5, 6, 7, 20, 21, 22, 25] [0, 1, 2, 3] (st 59 [(1, sv 1 p2.length ANY), (2, pt 2 0), (5, accV 3 v70.length), (6, iv v69), (7, .bool v154), (20, sv 0 p1.length ANY), (21, iv (p1.length : Int)), (22, iv v155), (25, ag [iv o170.1.1, .bool o170.1.2, iv o170.2.1, .bool o170.2.2])]) (H41_7 p1 p2 p0 v70) (TI.rn 2 [1, 2, 5, 6, 7, 9, 20, 21, 22] [0, 1, 2, 3, 4] (st 59 [(1, sv 1 p2.length ANY), (2, pt 2 0), (5, accV 3 v70.length), (6, iv v69), (7, .bool v154), (9, pt 4 0), (20, sv 0 p1.length ANY), (21, iv (p1.length : Int)), (22, iv v155)]) [ab 86 e86 p1, ab 50 e50 p2, cl 24 [iv p0, sv 0 p1.length ANY], ab 3 e3 v70, cl 86 [iv o170.1.1, .bool o170.1.2, iv o170.2.1, .bool o170.2.2]] (TI.dn (NX.sq ?_)))))
   have hX := of_do hF
   clear hF
   obtain ⟨m176, hm177, hF⟩ := hX
   have hK : NX Try.prog 2 2 [.bk 3, .sq c41.s2.s2.s1.s2.bd.bd.s2.s1.bd.s2.s1.s2.bd.bd.s2.s2.s2] (Rd Try.prog 2 2 c41.s2.s2.s1.s2.bd.bd.s2.s1.bd.s2.s1.s2.bd.bd (P41l1 p0 p1 p2 v69 v70 r)) .normal (st 59 [(1, sv 1 p2.length ANY), (2, pt 2 0), (5, accV 3 v70.length), (6, iv v69), (7, .bool m176), (20, sv 0 p1.length ANY), (21, iv (p1.length : Int)), (22, iv v155)]) (H41_5 p1 p2 p0 v70) := by
    refine NX.bk (NX.sq (TS.rg (TI.ra 2 [1, 2, 5, 6, 7, 20, 21, 22] (st 59 [(1, sv 1 p2.length ANY), (2, pt 2 0), (5, accV 3 v70.length), (6, iv v69), (7, .bool m176), (20, sv 0 p1.length ANY), (21, iv (p1.length : Int)), (22, iv (w64 (v155 + 1)))]) (TI.dn ?_))))
    exact Rd.again (a2 := (st 59 [(1, sv 1 p2.length ANY), (2, pt 2 0), (5, accV 3 v70.length), (6, iv v69), (7, .bool m176), (20, sv 0 p1.length ANY), (21, iv (p1.length : Int)), (22, iv (w64 (v155 + 1)))])) (h2 := (H41_7 p1 p2 p0 v70)) (Wk.an [2, 3] (.ac (.ac (.lt (.fl (.sl .nil)) (.ac (.nil _))))) [sv 1 p2.length ANY, pt 2 0, accV 3 v70.length, iv v69, .bool m176, sv 0 p1.length ANY, iv (p1.length : Int), iv (w64 (v155 + 1))] (.sl (.pp (.cons (Rn.acc (Nat.le_of_ble_eq_true rfl) rfl) (.fl (.fl (.sl (.fl (.fl .nil))))))))) (ih m176 (w64 (v155 + 1)) _ hF)
   cases v154 with
   | true =>
    replace hm177 := of_pos hm177 rfl
    have hX := of_do hm177
    clear hm177
    obtain ⟨r172, h173, hm177⟩ := hX
    cases r172 with
    | true =>
     replace hm177 := of_pos hm177 rfl
     have hm177 := Option.some.inj hm177
     subst hm177
     exact TS.rg (TI.ra 5 [1, 2, 5, 6, 9, 20, 21, 22, 27, 29, 30] (S41_0 p2 v70 v69 p1 v155 o170) (TI.cf (C47 _ _ _ _ h173) (TI.rn 8 [1, 2, 5, 6, 7, 20, 21, 22] [0, 1, 2, 3] (st 59 [(1, sv 1 p2.length ANY), (2, pt 2 0), (5, accV 3 v70.length), (6, iv v69), (7, .bool true), (20, sv 0 p1.length ANY), (21, iv (p1.length : Int)), (22, iv v155)]) (H41_5 p1 p2 p0 v70) (TI.dn hK))))
    | false =>
     replace hm177 := of_neg hm177 rfl
     have hX := of_do hm177
     clear hm177
     obtain ⟨r174, h175, hm177⟩ := hX
     have hm177 := Option.some.inj hm177
     subst hm177
     exact TS.rg (TI.ra 5 [1, 2, 5, 6, 9, 20, 21, 22, 27, 29, 30] (S41_0 p2 v70 v69 p1 v155 o170) (TI.cf (C47 _ _ _ _ h173) (TI.rn 4 [1, 2, 5, 6, 20, 21, 22, 27, 32, 34, 35] [0, 1, 2, 3] (st 59 [(1, sv 1 p2.length ANY), (2, pt 2 0), (5, accV 3 v70.length), (6, iv v69), (20, sv 0 p1.length ANY), (21, iv (p1.length : Int)), (22, iv v155), (27, .bool true), (32, .bool false), (34, ag [iv o170.2.1, .bool o170.2.2]), (35, iv v69)]) (H41_5 p1 p2 p0 v70) (TI.cf (C47 _ _ _ _ h175) (TI.ra 3 [1, 2, 5, 6, 7, 20, 21, 22] (st 59 [(1, sv 1 p2.length ANY), (2, pt 2 0), (5, accV 3 v70.length), (6, iv v69), (7, .bool r174), (20, sv 0 p1.length ANY), (21, iv (p1.length : Int)), (22, iv v155)]) (TI.dn hK))))))
   | false =>
    replace hm177 := of_neg hm177 rfl
    have hm177 := Option.some.inj hm177
    subst hm177
    exact TS.rg (TI.rn 14 [1, 2, 5, 6, 7, 20, 21, 22] [0, 1, 2, 3] (st 59 [(1, sv 1 p2.length ANY), (2, pt 2 0), (5, accV 3 v70.length), (6, iv v69), (7, .bool false), (20, sv 0 p1.length ANY), (21, iv (p1.length : Int)), (22, iv v155)]) (H41_5 p1 p2 p0 v70) (TI.dn hK))
 replace hF := of_neg hF hc168
 refine TS.ex 2 (NX.sqX ?_)
 have hF := Option.some.inj hF
 subst hF
 exact Rd.out (e := .exit 2) (by intro h; cases h) (And.intro rfl (Wk.an [2, 3] (.ac (.ac (.lt (.fl (.sl .nil)) (.ac (.nil _))))) [sv 1 p2.length ANY, pt 2 0, accV 3 v70.length, iv v69, .bool v154] (.sl (.pp (.cons (Rn.acc (Nat.le_of_ble_eq_true rfl) rfl) (.fl (.fl .nil)))))))
def P41l2 (p0 : Int) (p1 : (List ((Int × Bool) × (Int × Bool)))) (p2 : (List (Int × Bool))) (v69 : Int) (v70 : (List Int)) (r : Bool) : Post := fun e a h => e = .exit 4 ∧ Wk Try.prog 2 2 a h (st 59 [(1, sv 1 p2.length ANY), (2, pt 2 0), (5, accV 3 v70.length), (6, iv v69), (7, .bool r)]) (H41_7 p1 p2 p0 v70)
theorem L41l2 (p0 : Int) (p1 : (List ((Int × Bool) × (Int × Bool)))) (p2 : (List (Int × Bool))) (v69 : Int) (v70 : (List Int)) (v188 : Bool) (v189 : Int) (r : Bool) (hF : F41l2 p0 p1 p2 v69 v70 v188 v189 = some r) : TL Try.prog 2 2 c41.s2.s2.s1.s2.bd.bd.s2.s1.bd.s2.s2.s1.s2.bd.bd (S41_2 p2 v70 v69 v188 v189) (H41_7 p1 p2 p0 v70) (P41l2 p0 p1 p2 v69 v70 r) := by
 refine F41l2.partial_correctness p0 p1 p2 v69 v70 (motive := fun v188 v189 r => TL Try.prog 2 2 c41.s2.s2.s1.s2.bd.bd.s2.s1.bd.s2.s2.s1.s2.bd.bd (S41_2 p2 v70 v69 v188 v189) (H41_7 p1 p2 p0 v70) (P41l2 p0 p1 p2 v69 v70 r)) ?_ v188 v189 r hF
 clear hF r v188 v189
 intro again ih v188 v189 r hF
 refine TL.round (TS.sq (TS.rg (TI.ra 1 [1, 2, 5, 6, 7, 40, 41, 42, 43] (st 59 [(1, sv 1 p2.length ANY), (2, pt 2 0), (5, accV 3 v70.length), (6, iv v69), (7, .bool v188), (40, sv 1 p2.length ANY), (41, iv (p2.length : Int)), (42, iv v189), (43, .bool (decide (v189 < (p2.length : Int))))]) (TI.dn (NX.sq (TS.sq ?_))))))
 refine TS.cd (.tmp 43) (decide (v189 < (p2.length : Int))) (fun hc200 => ?_) (fun hc200 => ?_)
 · replace hF := of_pos hF hc200
   refine TS.sk (NX.sq (TS.sq (TS.bk 5 (TS.sq ?_))))
   have hX := of_guard hF
   clear hF
   obtain ⟨hg201, hF⟩ := hX
   have hX := of_do hF
   clear hF
   obtain ⟨o202, h203, hF⟩ := hX
   replace h203 := Option.some.inj h203
   refine TS.rg (TI.o { val := .pointer (some ⟨1, 0 + (Int.toNat v189) * 2, none⟩) } (q_ixS 1 0 ((Int.toNat v189) * 2) (by kernel_rfl) hg201) [1, 2, 5, 6, 7, 40, 41, 42, 44] [0, 1, 2, 3] (st 59 [(1, sv 1 p2.length ANY), (2, pt 2 0), (5, accV 3 v70.length), (6, iv v69), (7, .bool v188), (40, sv 1 p2.length ANY), (41, iv (p2.length : Int)), (42, iv v189), (44, .pointer (some ⟨1, 0 + (Int.toNat v189) * 2, none⟩))]) (H41_7 p1 p2 p0 v70) (TI.o { val := ag [iv o202.1, .bool o202.2] } (q_nAa Try.prog (H41_7 p1 p2 p0 v70) 50 1 (0 + (Int.toNat v189) * 2) p2 e50 2 50 (Int.toNat v189) (0, false) h203) [1, 2, 5, 6, 7, 40, 41, 42, 45] [0, 1, 2, 3] (st 59 [(1, sv 1 p2.length ANY), (2, pt 2 0), (5, accV 3 v70.length), (6, iv v69), (7, .bool v188), (40, sv 1 p2.length ANY), (41, iv (p2.length : Int)), (42, iv v189), (45, ag [iv o202.1, .bool o202.2])]) (H41_7 p1 p2 p0 v70) (TI.rn 2 [1, 2, 5, 6, 7, 11, 40, 41, 42] [0, 1, 2, 3, 4] (st 59 [(1, sv 1 p2.length ANY), (2, pt 2 0), (5, accV 3 v70.length), (6, iv v69), (7, .bool v188), (11, pt 4 0), (40, sv 1 p2.length ANY), (41, iv (p2.length : Int)), (42, iv v189)]) [ab 86 e86 p1, ab 50 e50 p2, cl 24 [iv p0, sv 0 p1.length ANY], ab 3 e3 v70, cl 50 [iv o202.1, .bool o202.2]] (TI.dn (NX.sq ?_)))))
   have hX := of_do hF
   clear hF
   obtain ⟨m206, hm207, hF⟩ := hX
   have hK : NX Try.prog 2 2 [.bk 5, .sq c41.s2.s2.s1.s2.bd.bd.s2.s1.bd.s2.s2.s1.s2.bd.bd.s2.s2.s2] (Rd Try.prog 2 2 c41.s2.s2.s1.s2.bd.bd.s2.s1.bd.s2.s2.s1.s2.bd.bd (P41l2 p0 p1 p2 v69 v70 r)) .normal (st 59 [(1, sv 1 p2.length ANY), (2, pt 2 0), (5, accV 3 v70.length), (6, iv v69), (7, .bool m206), (40, sv 1 p2.length ANY), (41, iv (p2.length : Int)), (42, iv v189)]) (H41_5 p1 p2 p0 v70) := by
    refine NX.bk (NX.sq (TS.rg (TI.ra 2 [1, 2, 5, 6, 7, 40, 41, 42] (S41_1 p2 v70 v69 m206 v189) (TI.dn ?_))))
    exact Rd.again (a2 := (S41_1 p2 v70 v69 m206 v189)) (h2 := (H41_7 p1 p2 p0 v70)) (Wk.an [2, 3] (.ac (.ac (.lt (.fl (.sl .nil)) (.ac (.nil _))))) [sv 1 p2.length ANY, pt 2 0, accV 3 v70.length, iv v69, .bool m206, sv 1 p2.length ANY, iv (p2.length : Int), iv (w64 (v189 + 1))] (.sl (.pp (.cons (Rn.acc (Nat.le_of_ble_eq_true rfl) rfl) (.fl (.fl (.sl (.fl (.fl .nil))))))))) (ih m206 (w64 (v189 + 1)) _ hF)
   cases v188 with
   | true =>
    replace hm207 := of_pos hm207 rfl
    have hX := of_do hm207
    clear hm207
    obtain ⟨r204, h205, hm207⟩ := hX
    have hm207 := Option.some.inj hm207
    subst hm207
    exact TS.rg (TI.rn 4 [1, 2, 5, 6, 40, 41, 42, 47, 48, 49] [0, 1, 2, 3] (st 59 [(1, sv 1 p2.length ANY), (2, pt 2 0), (5, accV 3 v70.length), (6, iv v69), (40, sv 1 p2.length ANY), (41, iv (p2.length : Int)), (42, iv v189), (47, .bool true), (48, ag [iv o202.1, .bool o202.2]), (49, iv v69)]) (H41_5 p1 p2 p0 v70) (TI.cf (C47 _ _ _ _ h205) (TI.ra 2 [1, 2, 5, 6, 7, 40, 41, 42] (st 59 [(1, sv 1 p2.length ANY), (2, pt 2 0), (5, accV 3 v70.length), (6, iv v69), (7, .bool r204), (40, sv 1 p2.length ANY), (41, iv (p2.length : Int)), (42, iv v189)]) (TI.dn hK))))
   | false =>
    replace hm207 := of_neg hm207 rfl
    have hm207 := Option.some.inj hm207
    subst hm207
    exact TS.rg (TI.rn 7 [1, 2, 5, 6, 7, 40, 41, 42] [0, 1, 2, 3] (st 59 [(1, sv 1 p2.length ANY), (2, pt 2 0), (5, accV 3 v70.length), (6, iv v69), (7, .bool false), (40, sv 1 p2.length ANY), (41, iv (p2.length : Int)), (42, iv v189)]) (H41_5 p1 p2 p0 v70) (TI.dn hK))
 replace hF := of_neg hF hc200
 refine TS.ex 4 (NX.sqX ?_)
 have hF := Option.some.inj hF
 subst hF
 exact Rd.out (e := .exit 4) (by intro h; cases h) (And.intro rfl (Wk.an [2, 3] (.ac (.ac (.lt (.fl (.sl .nil)) (.ac (.nil _))))) [sv 1 p2.length ANY, pt 2 0, accV 3 v70.length, iv v69, .bool v188] (.sl (.pp (.cons (Rn.acc (Nat.le_of_ble_eq_true rfl) rfl) (.fl (.fl .nil)))))))
def P41l0 (p0 : Int) (p1 : (List ((Int × Bool) × (Int × Bool)))) (p2 : (List (Int × Bool))) (r : (List Int)) : Post := fun e a h => e = .exit 0 ∧ Wk Try.prog 2 2 a h (st 59 [(5, accV 2 r.length)]) [ab 86 e86 p1, ab 50 e50 p2, ab 3 e3 r]
theorem L41l0 (p0 : Int) (p1 : (List ((Int × Bool) × (Int × Bool)))) (p2 : (List (Int × Bool))) (v70 : (List Int)) (v69 : Int) (r : (List Int)) (hF : F41l0 p0 p1 p2 v70 v69 = some r) : TL Try.prog 2 2 c41.s2.s2.s1.s2.bd.bd (st 59 [(1, sv 1 p2.length ANY), (2, pt 2 0), (5, accV 3 v70.length), (6, iv v69)]) (H41_7 p1 p2 p0 v70) (P41l0 p0 p1 p2 r) := by
 refine F41l0.partial_correctness p0 p1 p2 (motive := fun v70 v69 r => TL Try.prog 2 2 c41.s2.s2.s1.s2.bd.bd (st 59 [(1, sv 1 p2.length ANY), (2, pt 2 0), (5, accV 3 v70.length), (6, iv v69)]) (H41_7 p1 p2 p0 v70) (P41l0 p0 p1 p2 r)) ?_ v70 v69 r hF
 clear hF r v70 v69
 intro again ih v70 v69 r hF
 refine TL.round (TS.sq (TS.sq ?_))
 have hX := of_guard hF
 clear hF
 obtain ⟨hg141, hF⟩ := hX
 refine TS.rg (TI.ra 3 [1, 2, 5, 6, 12, 14] (st 59 [(1, sv 1 p2.length ANY), (2, pt 2 0), (5, accV 3 v70.length), (6, iv v69), (12, iv v69), (14, iv p0)]) (TI.o { val := iv (shl64 1 p0) } (q_shl (P := Try.prog) (ty := 3) (ox := (.const (iv 1))) (oy := (.tmp 14)) (by kernel_rfl) hg141) [1, 2, 5, 6, 12, 15] [0, 1, 2, 3] (st 59 [(1, sv 1 p2.length ANY), (2, pt 2 0), (5, accV 3 v70.length), (6, iv v69), (12, iv v69), (15, iv (shl64 1 p0))]) (H41_7 p1 p2 p0 v70) (TI.ra 1 [1, 2, 5, 6, 16] (st 59 [(1, sv 1 p2.length ANY), (2, pt 2 0), (5, accV 3 v70.length), (6, iv v69), (16, .bool (decide (v69 < (shl64 1 p0))))]) (TI.dn (NX.sq ?_)))))
 refine TS.cd (.tmp 16) (decide (v69 < (shl64 1 p0))) (fun hc143 => ?_) (fun hc143 => ?_)
 · replace hF := of_pos hF hc143
   refine TS.sk (NX.sq (TS.sq (TS.bk 1 (TS.sq (TS.rg (TI.ra 1 [1, 2, 5, 6, 7] (st 59 [(1, sv 1 p2.length ANY), (2, pt 2 0), (5, accV 3 v70.length), (6, iv v69), (7, .bool true)]) (TI.dn (NX.sq ?_))))))))
   refine TS.sq (TS.sq (TS.rg (TI.ra 4 [1, 2, 5, 6, 7, 20, 21, 22] (S41_3 p2 v70 v69 p1) (TI.dn (NX.sq (TS.bk 2 ?_))))))
   have hX := of_do hF
   clear hF
   obtain ⟨r178, h179, hF⟩ := hX
   refine TS.lp (TL.weak (a2 := (S41_3 p2 v70 v69 p1)) (h2 := (H41_7 p1 p2 p0 v70)) (Wk.an [2, 3] (.ac (.ac (.lt (.fl (.sl .nil)) (.ac (.nil _))))) [sv 1 p2.length ANY, pt 2 0, accV 3 v70.length, iv v69, .bool true, sv 0 p1.length ANY, iv (p1.length : Int), iv 0] (.sl (.pp (.cons (Rn.acc (Nat.le_of_ble_eq_true rfl) rfl) (.fl (.fl (.sl (.fl (.fl .nil))))))))) (TL.post (L41l1 p0 p1 p2 v69 v70 true 0 r178 h179) ?_))
   rintro e a1 h1 hp
   obtain ⟨rfl, hw⟩ := hp
   refine ⟨(st 59 [(1, sv 1 p2.length ANY), (2, pt 2 0), (5, accV 3 v70.length), (6, iv v69), (7, .bool r178)]), (H41_7 p1 p2 p0 v70), (NX.bkX (NX.sq (TS.sq (TS.sq (TS.rg (TI.ra 3 [1, 2, 5, 6, 7, 40, 41, 42] (S41_4 p2 v70 v69 r178) (TI.dn (NX.sq ?_)))))))), hw⟩
   refine TS.bk 4 ?_
   have hX := of_do hF
   clear hF
   obtain ⟨r208, h209, hF⟩ := hX
   refine TS.lp (TL.weak (a2 := (S41_4 p2 v70 v69 r178)) (h2 := (H41_7 p1 p2 p0 v70)) (Wk.an [2, 3] (.ac (.ac (.lt (.fl (.sl .nil)) (.ac (.nil _))))) [sv 1 p2.length ANY, pt 2 0, accV 3 v70.length, iv v69, .bool r178, sv 1 p2.length ANY, iv (p2.length : Int), iv 0] (.sl (.pp (.cons (Rn.acc (Nat.le_of_ble_eq_true rfl) rfl) (.fl (.fl (.sl (.fl (.fl .nil))))))))) (TL.post (L41l2 p0 p1 p2 v69 v70 r178 0 r208 h209) ?_))
   rintro e a1 h1 hp
   obtain ⟨rfl, hw⟩ := hp
   refine ⟨(st 59 [(1, sv 1 p2.length ANY), (2, pt 2 0), (5, accV 3 v70.length), (6, iv v69), (7, .bool r208)]), (H41_7 p1 p2 p0 v70), (NX.bkX (NX.sq (TS.sq (TS.rg (TI.ra 1 [1, 2, 5, 6, 53] (st 59 [(1, sv 1 p2.length ANY), (2, pt 2 0), (5, accV 3 v70.length), (6, iv v69), (53, .bool r208)]) (TI.dn (NX.sq ?_))))))), hw⟩
   have hX := of_do hF
   clear hF
   obtain ⟨m212, hm213, hF⟩ := hX
   have hK : NX Try.prog 2 2 [.bk 1, .sq c41.s2.s2.s1.s2.bd.bd.s2.s2] (Rd Try.prog 2 2 c41.s2.s2.s1.s2.bd.bd (P41l0 p0 p1 p2 r)) .normal (st 59 [(1, sv 1 p2.length ANY), (2, pt 2 0), (5, accV 3 m212.length), (6, iv v69)]) (H41_6 p1 p2 p0 m212) := by
    refine NX.bk (NX.sq (TS.rg (TI.ra 3 [1, 2, 5, 6] (st 59 [(1, sv 1 p2.length ANY), (2, pt 2 0), (5, accV 3 m212.length), (6, iv (w64 (v69 + 1)))]) (TI.dn ?_))))
    exact Rd.again (a2 := (st 59 [(1, sv 1 p2.length ANY), (2, pt 2 0), (5, accV 3 m212.length), (6, iv (w64 (v69 + 1)))])) (h2 := (H41_6 p1 p2 p0 m212)) (Wk.an [2, 3] (.ac (.ac (.lt (.fl (.sl .nil)) (.ac (.nil _))))) [sv 1 p2.length ANY, pt 2 0, accV 3 m212.length, iv (w64 (v69 + 1))] (.sl (.pp (.cons (Rn.acc (Nat.le_of_ble_eq_true rfl) rfl) (.fl .nil))))) (ih m212 (w64 (v69 + 1)) _ hF)
   clear hF
   have hF := hm213
   clear hm213
   refine TS.start ?_
   cases r208 with
   | true =>
    replace hF := of_pos hF rfl
    refine TS.cdT (.tmp 53) ?_
    have hX := of_guard hF
    clear hF
    obtain ⟨hg214, hF⟩ := hX
    refine TS.rg (TI.rn 3 [1, 2, 6, 54, 56] [0, 1, 2, 3, 4] (st 59 [(1, sv 1 p2.length ANY), (2, pt 2 0), (6, iv v69), (54, accV 3 v70.length), (56, sv 4 1 1)]) [ab 86 e86 p1, ab 50 e50 p2, cl 24 [iv p0, sv 0 p1.length ANY], ab 3 e3 v70, cl 3 [iv v69]] (TI.acc (l := v70) (b := 3) (ts := #[38, 38]) (e := 3) (bytes := 8) (z := iv 0) (y := sv 4 1 1) (ys := [v69]) (xs := List.flatMap e3 ([v69])) (m := 1) (s := 1) (enc := e3) (by kernel_rfl) (by kernel_rfl) (by decide) (by kernel_rfl) (by kernel_rfl) (by kernel_rfl) (by kernel_rfl) (by kernel_rfl) (by kernel_rfl) (by kernel_rfl) (by kernel_rfl) (fun _ => rfl) rfl rfl (by omega) [1, 2, 6, 57] [0, 1, 2, 5] (a2 := (st 59 [(1, sv 1 p2.length ANY), (2, pt 2 0), (6, iv v69), (57, sv 5 (List.length (v70 ++ [v69])) UNK)])) (h2 := [ab 86 e86 p1, ab 50 e50 p2, cl 24 [iv p0, sv 0 p1.length ANY], .dead, .dead, .cells 3 (List.flatMap e3 (v70 ++ [v69]))]) (by kernel_rfl) (TI.ra 1 [1, 2, 5, 6] (st 59 [(1, sv 1 p2.length ANY), (2, pt 2 0), (5, sv 5 (List.length (v70 ++ [v69])) UNK), (6, iv v69)]) (TI.dn ?_))))
    have hF := Option.some.inj hF
    subst hF
    exact TS.weak (by exact (Wk.an [2, 5] (.ac (.ac (.lt (.fl (.sl .nil)) (.cons (At.accU (by kernel_rfl) rfl (fun _ => rfl)) (.nil _))))) [sv 1 p2.length ANY, pt 2 0, sv 5 (List.length (v70 ++ [v69])) UNK, iv v69] (.sl (.pp (.cons (Rn.accU (Nat.le_of_ble_eq_true rfl) rfl (by simp)) (.fl .nil)))))) hK
   | false =>
    replace hF := of_neg hF rfl
    refine TS.cdF (.tmp 53) (TS.sk ?_)
    have hF := Option.some.inj hF
    subst hF
    exact TS.weak (by exact (Wk.an [2, 3] (.ac (.ac (.lt (.fl (.sl .nil)) (.ac (.nil _))))) [sv 1 p2.length ANY, pt 2 0, accV 3 v70.length, iv v69] (.sl (.pp (.cons (Rn.acc (Nat.le_of_ble_eq_true rfl) rfl) (.fl .nil)))))) hK
 replace hF := of_neg hF hc143
 refine TS.ex 0 (NX.sqX ?_)
 have hF := Option.some.inj hF
 subst hF
 exact Rd.out (e := .exit 0) (by intro h; cases h) (And.intro rfl (Wk.an [3] (.ac (.ac (.ac (.nil _)))) [accV 3 v70.length] (.cons (Rn.acc (Nat.le_of_ble_eq_true rfl) rfl) .nil)))
theorem B41 (p0 : Int) (p1 : (List ((Int × Bool) × (Int × Bool)))) (p2 : (List (Int × Bool))) (r : (List Int)) (hF : F41 p0 p1 p2 = some r) : TS Try.prog 2 2 c41 (st 59 [(0, ag [iv p0, sv 0 p1.length ANY]), (1, sv 1 p2.length ANY)]) [ab 86 e86 p1, ab 50 e50 p2] (NX Try.prog 2 2 [] (FinP Try.prog Try.f41 2 (V41 2 r) (N41 2 r))) := by
 unfold F41 at hF
 refine TS.sq (TS.rg (TI.rn 2 [1, 2] [0, 1, 2] (st 59 [(1, sv 1 p2.length ANY), (2, pt 2 0)]) [ab 86 e86 p1, ab 50 e50 p2, cl 24 [iv p0, sv 0 p1.length ANY]] (TI.dn (NX.sq (TS.sq (TS.rg (TI.ra 1 [1, 2, 5] (st 59 [(1, sv 1 p2.length ANY), (2, pt 2 0), (5, .slice none 0 0)]) (TI.dn ?_))))))))
 refine NX.sq (TS.sq (TS.sq (TS.rg (TI.ra 1 [1, 2, 5, 6] (st 59 [(1, sv 1 p2.length ANY), (2, pt 2 0), (5, .slice none 0 0), (6, iv 0)]) (TI.dn (NX.sq (TS.bk 0 ?_)))))))
 have hX := of_do hF
 clear hF
 obtain ⟨r215, h216, hF⟩ := hX
 refine TS.lp (TL.weak (a2 := (st 59 [(1, sv 1 p2.length ANY), (2, pt 2 0), (5, accV 3 (List.length ([]))), (6, iv 0)])) (h2 := [ab 86 e86 p1, ab 50 e50 p2, cl 24 [iv p0, sv 0 p1.length ANY], accB 3 (List.length ([])) (List.flatMap e3 ([]))]) (Wk.an [2, 3] (.ac (.ac (.lt (.fl (.sl .nil)) (.cons At.accN (.nil _))))) [sv 1 p2.length ANY, pt 2 0, .slice none 0 0, iv 0] (.sl (.pp (.cons (Rn.accN) (.fl .nil))))) (TL.post (L41l0 p0 p1 p2 ([]) 0 r215 h216) ?_))
 rintro e a1 h1 hp
 obtain ⟨rfl, hw⟩ := hp
 refine ⟨(st 59 [(5, accV 2 r215.length)]), [ab 86 e86 p1, ab 50 e50 p2, ab 3 e3 r215], (NX.bkX (NX.sq (TS.sq (TS.rg (TI.ra 2 [4] (st 59 [(4, accV 2 r215.length)]) (TI.dn (NX.sq (TS.rt ?_)))))))), hw⟩
 have hF := Option.some.inj hF
 subst hF
 exact ⟨.inr rfl, rfl, accV 2 r215.length, by kernel_rfl, WkV.made (L := 2) (f := [2]) (by decide) (by decide) rfl (.ac (.nil _)) (Rn.acc (Nat.le_of_ble_eq_true rfl) rfl)⟩
theorem C41 (p0 : Int) (p1 : (List ((Int × Bool) × (Int × Bool)))) (p2 : (List (Int × Bool))) (r : (List Int)) (hF : F41 p0 p1 p2 = some r) : PureSim Try.prog 41 [ag [iv p0, sv 0 p1.length ANY], sv 1 p2.length ANY] [ab 86 e86 p1, ab 50 e50 p2] (V41 2 r) (N41 2 r) :=
 PureSim.of_Fin Try.func41 (c := c41) (by kernel_rfl) (by kernel_rfl) 2 rfl [0, 1] [0, 1] (by kernel_rfl) (B41 p0 p1 p2 r hF)
end
end Go.Proofs.Ytiaippkjgmccoaa
