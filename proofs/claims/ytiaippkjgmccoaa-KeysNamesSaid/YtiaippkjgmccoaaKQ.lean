/- What functions of the program compute, and that they do. -/
import Derived.Test.YtiaippkjgmccoaaKP
import Derived.Test.YtiaippkjgmccoaaKSh
set_option linter.unusedVariables false
set_option linter.unusedSimpArgs false
set_option maxRecDepth 100000
set_option maxHeartbeats 4000000
namespace Go.Proofs.Ytiaippkjgmccoaa
open Go Go.Cl
noncomputable section
def e84 (x : (Int × Int)) : List Value := [.int .u8 x.1, .int .u8 x.2]
noncomputable def c45 : Code := Try.f45.code
def F45 (p0 : Int) (p1 : (List ((Int × Bool) × (Int × Bool)))) (p2 : Int) : Option (Int × Bool) :=
 if p0 = 0 then none else
 some (Int.tmod (w64 (Int.tdiv (w64 p2) 2)) p0, (Int.tmod p2 2) == 1)
def V45 (b : Nat) (r : (Int × Bool)) : Value := ag [iv r.1, .bool r.2]
def N45 (b : Nat) (r : (Int × Bool)) : List Blk := []
theorem B45 (p0 : Int) (p1 : (List ((Int × Bool) × (Int × Bool)))) (p2 : Int) (r : (Int × Bool)) (hF : F45 p0 p1 p2 = some r) : TS Try.prog 1 1 c45 (st 15 [(0, ag [iv p0, sv 0 p1.length ANY]), (1, .int .u8 p2)]) [ab 86 e86 p1] (NX Try.prog 1 1 [] (FinP Try.prog Try.f45 1 (V45 1 r) (N45 1 r))) := by
 unfold F45 at hF
 refine TS.sq (TS.rg (TI.rn 2 [1, 2, 4] [0, 1, 2] (st 15 [(1, .int .u8 p2), (2, pt 1 0), (4, pt 2 0)]) [ab 86 e86 p1, cl 24 [iv p0, sv 0 p1.length ANY], cl 50 [iv 0, .bool false]] (TI.dn (NX.sq (TS.sq ?_)))))
 have hX := of_guardn hF
 clear hF
 obtain ⟨hg1, hF⟩ := hX
 refine TS.rg (TI.rn 5 [1, 4, 7, 9] [0, 2] (st 15 [(1, .int .u8 p2), (4, pt 2 0), (7, iv (w64 (Int.tdiv (w64 p2) 2))), (9, iv p0)]) [ab 86 e86 p1, .dead, cl 50 [iv 0, .bool false]] (TI.o { val := iv (Int.tmod (w64 (Int.tdiv (w64 p2) 2)) p0) } (q_int (P := Try.prog) (op := .rem) (ty := 3) (ox := (.tmp 7)) (oy := (.tmp 9)) (k := .i64) (k' := .i64) (y := w64 (Int.tdiv (w64 p2) 2)) (z := p0) (by kernel_rfl) (rem_ok hg1)) [1, 4, 10] [0, 2] (st 15 [(1, .int .u8 p2), (4, pt 2 0), (10, iv (Int.tmod (w64 (Int.tdiv (w64 p2) 2)) p0))]) [ab 86 e86 p1, .dead, cl 50 [iv 0, .bool false]] (TI.rn 5 [4] [0, 2] (st 15 [(4, pt 2 0)]) [ab 86 e86 p1, .dead, cl 50 [iv (Int.tmod (w64 (Int.tdiv (w64 p2) 2)) p0), .bool ((Int.tmod p2 2) == 1)]] (TI.dn (NX.sq (TS.rt ?_))))))
 have hF := Option.some.inj hF
 subst hF
 exact ⟨.inr rfl, rfl, ag [iv (Int.tmod (w64 (Int.tdiv (w64 p2) 2)) p0), .bool ((Int.tmod p2 2) == 1)], by kernel_rfl, WkV.flat0 (by kernel_rfl) (Nat.le_of_ble_eq_true rfl)⟩
theorem C45 (p0 : Int) (p1 : (List ((Int × Bool) × (Int × Bool)))) (p2 : Int) (r : (Int × Bool)) (hF : F45 p0 p1 p2 = some r) : PureSim Try.prog 45 [ag [iv p0, sv 0 p1.length ANY], .int .u8 p2] [ab 86 e86 p1] (V45 1 r) (N45 1 r) :=
 PureSim.of_Fin Try.func45 (c := c45) (by kernel_rfl) (by kernel_rfl) 1 rfl [0, 1] [0] (by kernel_rfl) (B45 p0 p1 p2 r hF)
noncomputable def c40 : Code := Try.f40.code
def S40_0 (v11 : Int) (v12 : (List ((Int × Bool) × (Int × Bool)))) (p0 : Int) (p1 : (List (Int × Int))) (o28 : (Int × Int)) (r30 : (Int × Bool)) (r32 : (Int × Bool)) : CAct := (st 45 [(1, pt 1 0), (2, pt 2 0), (3, pt 3 0), (4, iv v11), (19, .bool true), (22, pt 3 1), (23, accV 4 v12.length), (24, ag [iv (w64 (1 + (Int.tmod (w64 p0) 5))), accV 4 v12.length]), (25, pt 1 1), (26, sv 0 p1.length ANY), (27, iv v11), (28, .pointer (some ⟨0, 0 + (Int.toNat v11) * 2, none⟩)), (29, .pointer (some ⟨0, 0 + (Int.toNat v11) * 2, none⟩)), (30, .int .u8 o28.1), (31, ag [iv r30.1, .bool r30.2]), (32, ag [iv (w64 (1 + (Int.tmod (w64 p0) 5))), accV 4 v12.length]), (33, pt 1 1), (34, sv 0 p1.length ANY), (35, iv v11), (36, .pointer (some ⟨0, 0 + (Int.toNat v11) * 2, none⟩)), (37, .pointer (some ⟨0, 0 + (Int.toNat v11) * 2 + 1, none⟩)), (38, .int .u8 o28.2), (39, ag [iv r32.1, .bool r32.2]), (40, ag [iv r30.1, .bool r30.2, iv r32.1, .bool r32.2]), (41, sv 5 1 1)])
def H40_1 (p1 : (List (Int × Int))) (p0 : Int) (v12 : (List ((Int × Bool) × (Int × Bool)))) (r30 : (Int × Bool)) (r32 : (Int × Bool)) : List Blk := [ab 84 e84 p1, cl 71 [.int .u8 p0, sv 0 p1.length ANY], cl 24 [iv 0, .slice none 0 0], cl 24 [iv (w64 (1 + (Int.tmod (w64 p0) 5))), accV 4 v12.length], ab 86 e86 v12, cl 86 [iv r30.1, .bool r30.2, iv r32.1, .bool r32.2]]
def H40_2 (p1 : (List (Int × Int))) (p0 : Int) (v12 : (List ((Int × Bool) × (Int × Bool)))) : List Blk := [ab 84 e84 p1, cl 71 [.int .u8 p0, sv 0 p1.length ANY], cl 24 [iv 0, .slice none 0 0], cl 24 [iv (w64 (1 + (Int.tmod (w64 p0) 5))), accV 4 v12.length], ab 86 e86 v12]
def S40_3 (v11 : Int) : CAct := (st 45 [(1, pt 1 0), (2, pt 2 0), (3, pt 3 0), (4, iv v11)])
def F40l0 (p0 : Int) (p1 : (List (Int × Int))) (v11 : Int) (v12 : (List ((Int × Bool) × (Int × Bool)))) : Option (List ((Int × Bool) × (Int × Bool))) :=
 (
  if decide (v11 < (p1.length : Int)) then
   some (decide (v11 < 9))
  else
   some (false)
 : Option Bool) >>= fun m26 =>
 if m26 then
  if (0 : Int) ≤ v11 ∧ v11 < (p1.length : Int) then
   some (List.getD p1 (Int.toNat v11) (0, 0)) >>= fun o28 =>
   F45 (w64 (1 + (Int.tmod (w64 p0) 5))) v12 o28.1 >>= fun r30 =>
   F45 (w64 (1 + (Int.tmod (w64 p0) 5))) v12 o28.2 >>= fun r32 =>
   if List.length v12 ≤ 1000000000 then
    F40l0 p0 p1 (w64 (v11 + 1)) (v12 ++ [((r30.1, r30.2), (r32.1, r32.2))])
   else none
  else none
 else
  some v12
 partial_fixpoint
def F40 (p0 : Int) (p1 : (List (Int × Int))) : Option (Int × (List ((Int × Bool) × (Int × Bool)))) :=
 F40l0 p0 p1 0 ([]) >>= fun r36 =>
 some (w64 (1 + (Int.tmod (w64 p0) 5)), r36)
def V40 (b : Nat) (r : (Int × (List ((Int × Bool) × (Int × Bool))))) : Value := ag [iv r.1, accV (b + 0) r.2.length]
def N40 (b : Nat) (r : (Int × (List ((Int × Bool) × (Int × Bool))))) : List Blk := [ab 86 e86 r.2]
def P40l0 (p0 : Int) (p1 : (List (Int × Int))) (r : (List ((Int × Bool) × (Int × Bool)))) : Post := fun e a h => e = .exit 0 ∧ Wk Try.prog 1 1 a h (st 45 [(2, pt 1 0), (3, pt 2 0)]) [ab 84 e84 p1, cl 24 [iv 0, .slice none 0 0], cl 24 [iv (w64 (1 + (Int.tmod (w64 p0) 5))), accV 3 r.length], ab 86 e86 r]
theorem L40l0 (p0 : Int) (p1 : (List (Int × Int))) (v11 : Int) (v12 : (List ((Int × Bool) × (Int × Bool)))) (r : (List ((Int × Bool) × (Int × Bool)))) (hF : F40l0 p0 p1 v11 v12 = some r) : TL Try.prog 1 1 c40.s2.s2.s1.s2.bd.bd (S40_3 v11) (H40_2 p1 p0 v12) (P40l0 p0 p1 r) := by
 refine F40l0.partial_correctness p0 p1 (motive := fun v11 v12 r => TL Try.prog 1 1 c40.s2.s2.s1.s2.bd.bd (S40_3 v11) (H40_2 p1 p0 v12) (P40l0 p0 p1 r)) ?_ v11 v12 r hF
 clear hF r v11 v12
 intro again ih v11 v12 r hF
 refine TL.round (TS.sq (TS.sq ?_))
 have hX := of_do hF
 clear hF
 obtain ⟨m26, hm35, hF⟩ := hX
 have hK : NX Try.prog 1 1 [.sq c40.s2.s2.s1.s2.bd.bd.s1.s2, .sq c40.s2.s2.s1.s2.bd.bd.s2] (Rd Try.prog 1 1 c40.s2.s2.s1.s2.bd.bd (P40l0 p0 p1 r)) .normal (st 45 [(1, pt 1 0), (2, pt 2 0), (3, pt 3 0), (4, iv v11), (19, .bool m26)]) (H40_2 p1 p0 v12) := by
  refine NX.sq ?_
  cases m26 with
  | true =>
   replace hF := of_pos hF rfl
   refine TS.cdT (.tmp 19) (TS.sk (NX.sq (TS.sq (TS.bk 1 ?_))))
   have hX := of_guard hF
   clear hF
   obtain ⟨hg27, hF⟩ := hX
   have hX := of_do hF
   clear hF
   obtain ⟨o28, h29, hF⟩ := hX
   replace h29 := Option.some.inj h29
   have hX := of_do hF
   clear hF
   obtain ⟨r30, h31, hF⟩ := hX
   have hX := of_do hF
   clear hF
   obtain ⟨r32, h33, hF⟩ := hX
   have hX := of_guard hF
   clear hF
   obtain ⟨hg34, hF⟩ := hX
   have hT : ∀ e ∈ ([⟨45, [ag [iv (w64 (1 + (Int.tmod (w64 p0) 5))), accV 4 v12.length], .int .u8 o28.1], (H40_2 p1 p0 v12), ag [iv r30.1, .bool r30.2], []⟩, ⟨45, [ag [iv (w64 (1 + (Int.tmod (w64 p0) 5))), accV 4 v12.length], .int .u8 o28.2], (H40_2 p1 p0 v12), ag [iv r32.1, .bool r32.2], []⟩] : List Entry), PureSim Try.prog e.g e.args e.h e.v e.new := by
    intro e he
    simp only [List.mem_cons, List.not_mem_nil, or_false] at he
    rcases he with rfl | rfl
    · exact (PureSim.ren (hc := [ab 86 e86 v12]) (fun i => List.getD [(4, 0)] i (0, 0)) (C45 _ _ _ _ h31) (.ac (.nil _)) (.cons (Rn.agg' (.fl (.cons (Rn.accA (i' := 4) (Nat.le_of_ble_eq_true rfl) rfl) .nil))) (.fl .nil)) (.flat (by kernel_rfl)) newflat_nil)
    exact (PureSim.ren (hc := [ab 86 e86 v12]) (fun i => List.getD [(4, 0)] i (0, 0)) (C45 _ _ _ _ h33) (.ac (.nil _)) (.cons (Rn.agg' (.fl (.cons (Rn.accA (i' := 4) (Nat.le_of_ble_eq_true rfl) rfl) .nil))) (.fl .nil)) (.flat (by kernel_rfl)) newflat_nil)
   refine TS.drawT [⟨45, [ag [iv (w64 (1 + (Int.tmod (w64 p0) 5))), accV 4 v12.length], .int .u8 o28.1], (H40_2 p1 p0 v12), ag [iv r30.1, .bool r30.2], []⟩, ⟨45, [ag [iv (w64 (1 + (Int.tmod (w64 p0) 5))), accV 4 v12.length], .int .u8 o28.2], (H40_2 p1 p0 v12), ag [iv r32.1, .bool r32.2], []⟩] hT mixed 20 [] (S40_0 v11 v12 p0 p1 o28 r30 r32) (H40_1 p1 p0 v12 r30 r32) ?_ ?_
   · refine QJ.rn (qs (st 45 [(1, pt 1 0), (2, pt 2 0), (3, pt 3 0), (4, iv v11), (19, .bool true), (22, pt 3 1), (23, accV 4 v12.length), (24, ag [iv (w64 (1 + (Int.tmod (w64 p0) 5))), accV 4 v12.length]), (25, pt 1 1), (26, sv 0 p1.length ANY), (27, iv v11)]) (H40_2 p1 p0 v12) [] []) 6 (QJ.o { val := .pointer (some ⟨0, 0 + (Int.toNat v11) * 2, none⟩) } (q_ixS 0 0 ((Int.toNat v11) * 2) (by kernel_rfl) hg27) (QJ.rn (qs (st 45 [(1, pt 1 0), (2, pt 2 0), (3, pt 3 0), (4, iv v11), (19, .bool true), (22, pt 3 1), (23, accV 4 v12.length), (24, ag [iv (w64 (1 + (Int.tmod (w64 p0) 5))), accV 4 v12.length]), (25, pt 1 1), (26, sv 0 p1.length ANY), (27, iv v11), (28, .pointer (some ⟨0, 0 + (Int.toNat v11) * 2, none⟩)), (29, .pointer (some ⟨0, 0 + (Int.toNat v11) * 2, none⟩))]) (H40_2 p1 p0 v12) [] []) 1 (QJ.o { val := .int .u8 o28.1 } (q_n1a Try.prog (H40_2 p1 p0 v12) 5 0 (0 + (Int.toNat v11) * 2) p1 e84 2 84 (Int.toNat v11) 0 (0, 0) h29) (QJ.o { val := ag [iv r30.1, .bool r30.2], new := [] } (qOf_call (g := 45) (args := [ag [iv (w64 (1 + (Int.tmod (w64 p0) 5))), accV 4 v12.length], .int .u8 o28.1]) (by kernel_rfl) lookC_hit) (QJ.rn (qs (st 45 [(1, pt 1 0), (2, pt 2 0), (3, pt 3 0), (4, iv v11), (19, .bool true), (22, pt 3 1), (23, accV 4 v12.length), (24, ag [iv (w64 (1 + (Int.tmod (w64 p0) 5))), accV 4 v12.length]), (25, pt 1 1), (26, sv 0 p1.length ANY), (27, iv v11), (28, .pointer (some ⟨0, 0 + (Int.toNat v11) * 2, none⟩)), (29, .pointer (some ⟨0, 0 + (Int.toNat v11) * 2, none⟩)), (30, .int .u8 o28.1), (31, ag [iv r30.1, .bool r30.2]), (32, ag [iv (w64 (1 + (Int.tmod (w64 p0) 5))), accV 4 v12.length]), (33, pt 1 1), (34, sv 0 p1.length ANY), (35, iv v11)]) (H40_2 p1 p0 v12) [] []) 4 (QJ.o { val := .pointer (some ⟨0, 0 + (Int.toNat v11) * 2, none⟩) } (q_ixS 0 0 ((Int.toNat v11) * 2) (by kernel_rfl) hg27) (QJ.rn (qs (st 45 [(1, pt 1 0), (2, pt 2 0), (3, pt 3 0), (4, iv v11), (19, .bool true), (22, pt 3 1), (23, accV 4 v12.length), (24, ag [iv (w64 (1 + (Int.tmod (w64 p0) 5))), accV 4 v12.length]), (25, pt 1 1), (26, sv 0 p1.length ANY), (27, iv v11), (28, .pointer (some ⟨0, 0 + (Int.toNat v11) * 2, none⟩)), (29, .pointer (some ⟨0, 0 + (Int.toNat v11) * 2, none⟩)), (30, .int .u8 o28.1), (31, ag [iv r30.1, .bool r30.2]), (32, ag [iv (w64 (1 + (Int.tmod (w64 p0) 5))), accV 4 v12.length]), (33, pt 1 1), (34, sv 0 p1.length ANY), (35, iv v11), (36, .pointer (some ⟨0, 0 + (Int.toNat v11) * 2, none⟩)), (37, .pointer (some ⟨0, 0 + (Int.toNat v11) * 2 + 1, none⟩))]) (H40_2 p1 p0 v12) [] []) 1 (QJ.o { val := .int .u8 o28.2 } (q_n1a Try.prog (H40_2 p1 p0 v12) 5 0 (0 + (Int.toNat v11) * 2 + 1) p1 e84 2 84 (Int.toNat v11) 1 (0, 0) h29) ?_))))))))
     exact QJ.o { val := ag [iv r32.1, .bool r32.2], new := [] } (qOf_call (g := 45) (args := [ag [iv (w64 (1 + (Int.tmod (w64 p0) 5))), accV 4 v12.length], .int .u8 o28.2]) (by kernel_rfl) (lookC_skip (by intro _ ha hh; first | (exact absurd (congrArg List.length hh) (Nat.ne_of_beq_eq_false rfl)) | (have hr := Option.some.inj (h31.symm.trans (Eq.trans (congr (congr (congrArg F45 (Eq.refl (w64 (1 + (Int.tmod (w64 p0) 5))))) (Eq.refl v12)) (show o28.1 = o28.2 from congrArg (fun l => leafI 0 [argV 1 l]) ha)) h33)); first | (subst hr; rfl) | (cases hr; done) | (cases hr; rfl))) lookC_hit)) (QJ.rn (qs (S40_0 v11 v12 p0 p1 o28 r30 r32) (H40_1 p1 p0 v12 r30 r32) [(19, 5, 6)] []) 2 (QJ.dn ⟨by kernel_rfl, by kernel_rfl, by kernel_rfl⟩))
   refine TI.rn 0 [1, 2, 3, 4, 23, 41] [0, 1, 2, 3, 4, 5] (st 45 [(1, pt 1 0), (2, pt 2 0), (3, pt 3 0), (4, iv v11), (23, accV 4 v12.length), (41, sv 5 1 1)]) (H40_1 p1 p0 v12 r30 r32) (TI.acc (l := v12) (b := 4) (ts := #[22, 22]) (e := 86) (bytes := 32) (z := ag [iv 0, .bool false, iv 0, .bool false]) (y := sv 5 1 1) (ys := [((r30.1, r30.2), (r32.1, r32.2))]) (xs := List.flatMap e86 ([((r30.1, r30.2), (r32.1, r32.2))])) (m := 1) (s := 4) (enc := e86) (by kernel_rfl) (by kernel_rfl) (by decide) (by kernel_rfl) (by kernel_rfl) (by kernel_rfl) (by kernel_rfl) (by kernel_rfl) (by kernel_rfl) (by kernel_rfl) (by kernel_rfl) (fun _ => rfl) rfl rfl (by omega) [1, 2, 3, 4, 42] [0, 1, 2, 3, 6] (a2 := (st 45 [(1, pt 1 0), (2, pt 2 0), (3, pt 3 0), (4, iv v11), (42, sv 6 (List.length (v12 ++ [((r30.1, r30.2), (r32.1, r32.2))])) UNK)])) (h2 := [ab 84 e84 p1, cl 71 [.int .u8 p0, sv 0 p1.length ANY], cl 24 [iv 0, .slice none 0 0], cl 24 [iv (w64 (1 + (Int.tmod (w64 p0) 5))), accV 4 v12.length], .dead, .dead, .cells 86 (List.flatMap e86 (v12 ++ [((r30.1, r30.2), (r32.1, r32.2))]))]) (by kernel_rfl) (TI.rn 2 [1, 2, 3, 4] [0, 1, 2, 3, 6] (S40_3 v11) [ab 84 e84 p1, cl 71 [.int .u8 p0, sv 0 p1.length ANY], cl 24 [iv 0, .slice none 0 0], cl 24 [iv (w64 (1 + (Int.tmod (w64 p0) 5))), sv 6 (List.length (v12 ++ [((r30.1, r30.2), (r32.1, r32.2))])) UNK], .dead, .dead, .cells 86 (List.flatMap e86 (v12 ++ [((r30.1, r30.2), (r32.1, r32.2))]))] (TI.dn (NX.bk (NX.sq (TS.rg (TI.ra 3 [1, 2, 3, 4] (st 45 [(1, pt 1 0), (2, pt 2 0), (3, pt 3 0), (4, iv (w64 (v11 + 1)))]) (TI.dn ?_))))))))
   exact Rd.again (a2 := (st 45 [(1, pt 1 0), (2, pt 2 0), (3, pt 3 0), (4, iv (w64 (v11 + 1)))])) (h2 := [ab 84 e84 p1, cl 71 [.int .u8 p0, sv 0 p1.length ANY], cl 24 [iv 0, .slice none 0 0], cl 24 [iv (w64 (1 + (Int.tmod (w64 p0) 5))), accV 4 (List.length (v12 ++ [((r30.1, r30.2), (r32.1, r32.2))]))], accB 86 (List.length (v12 ++ [((r30.1, r30.2), (r32.1, r32.2))])) (List.flatMap e86 (v12 ++ [((r30.1, r30.2), (r32.1, r32.2))]))]) (Wk.an [1, 2, 3, 6] (.ac (.lt (.fl (.sl .nil)) (.lt (.fl (.fl .nil)) (.lt (.fl (.cons (Rn.accU (Nat.le_of_ble_eq_true rfl) rfl (by simp)) .nil)) (.cons (At.accU (by kernel_rfl) rfl (fun _ => rfl)) (.nil _)))))) [pt 1 0, pt 2 0, pt 3 0, iv (w64 (v11 + 1))] (.pp (.pp (.pp (.fl .nil))))) (ih (w64 (v11 + 1)) (v12 ++ [((r30.1, r30.2), (r32.1, r32.2))]) _ hF)
  | false =>
   replace hF := of_neg hF rfl
   refine TS.cdF (.tmp 19) (TS.ex 0 (NX.sqX ?_))
   have hF := Option.some.inj hF
   subst hF
   exact Rd.out (e := .exit 0) (by intro h; cases h) (And.intro rfl (Wk.an [2, 3, 4] (.ac (.lt (.fl (.fl .nil)) (.lt (.fl (.cons (Rn.acc (Nat.le_of_ble_eq_true rfl) rfl) .nil)) (.ac (.nil _))))) [pt 2 0, pt 3 0] (.pp (.pp .nil))))
 rcases Bool.eq_false_or_eq_true (decide (v11 < (p1.length : Int))) with hc25 | hc25
 · replace hm35 := of_pos hm35 hc25
   have hm35 := Option.some.inj hm35
   subst hm35
   exact TS.rg (TI.ra 4 [1, 2, 3, 4, 11, 14] (st 45 [(1, pt 1 0), (2, pt 2 0), (3, pt 3 0), (4, iv v11), (11, iv v11), (14, iv (p1.length : Int))]) (TI.o { val := .bool true } (q_conv (e := decide (v11 < (p1.length : Int))) (b := true) (by kernel_rfl) hc25) [1, 2, 3, 4, 15] [0, 1, 2, 3, 4] (st 45 [(1, pt 1 0), (2, pt 2 0), (3, pt 3 0), (4, iv v11), (15, .bool true)]) (H40_2 p1 p0 v12) (TI.ra 4 [1, 2, 3, 4, 19] (st 45 [(1, pt 1 0), (2, pt 2 0), (3, pt 3 0), (4, iv v11), (19, .bool (decide (v11 < 9)))]) (TI.dn hK))))
 replace hm35 := of_neg hm35 hc25
 have hm35 := Option.some.inj hm35
 subst hm35
 exact TS.rg (TI.ra 4 [1, 2, 3, 4, 11, 14] (st 45 [(1, pt 1 0), (2, pt 2 0), (3, pt 3 0), (4, iv v11), (11, iv v11), (14, iv (p1.length : Int))]) (TI.o { val := .bool false } (q_conv (e := decide (v11 < (p1.length : Int))) (b := false) (by kernel_rfl) hc25) [1, 2, 3, 4, 15] [0, 1, 2, 3, 4] (st 45 [(1, pt 1 0), (2, pt 2 0), (3, pt 3 0), (4, iv v11), (15, .bool false)]) (H40_2 p1 p0 v12) (TI.ra 4 [1, 2, 3, 4, 19] (st 45 [(1, pt 1 0), (2, pt 2 0), (3, pt 3 0), (4, iv v11), (19, .bool false)]) (TI.dn hK))))
theorem B40 (p0 : Int) (p1 : (List (Int × Int))) (r : (Int × (List ((Int × Bool) × (Int × Bool))))) (hF : F40 p0 p1 = some r) : TS Try.prog 1 1 c40 (st 45 [(0, ag [.int .u8 p0, sv 0 p1.length ANY])]) [ab 84 e84 p1] (NX Try.prog 1 1 [] (FinP Try.prog Try.f40 1 (V40 1 r) (N40 1 r))) := by
 unfold F40 at hF
 refine TS.sq (TS.rg (TI.rn 2 [1, 2] [0, 1, 2] (st 45 [(1, pt 1 0), (2, pt 2 0)]) [ab 84 e84 p1, cl 71 [.int .u8 p0, sv 0 p1.length ANY], cl 24 [iv 0, .slice none 0 0]] (TI.dn (NX.sq (TS.sq (TS.rg (TI.rn 8 [1, 2, 3] [0, 1, 2, 3] (st 45 [(1, pt 1 0), (2, pt 2 0), (3, pt 3 0)]) [ab 84 e84 p1, cl 71 [.int .u8 p0, sv 0 p1.length ANY], cl 24 [iv 0, .slice none 0 0], cl 24 [iv (w64 (1 + (Int.tmod (w64 p0) 5))), .slice none 0 0]] (TI.dn ?_))))))))
 refine NX.sq (TS.sq (TS.sq (TS.rg (TI.ra 1 [1, 2, 3, 4] (st 45 [(1, pt 1 0), (2, pt 2 0), (3, pt 3 0), (4, iv 0)]) (TI.dn (NX.sq (TS.bk 0 ?_)))))))
 have hX := of_do hF
 clear hF
 obtain ⟨r36, h37, hF⟩ := hX
 refine TS.lp (TL.weak (a2 := (st 45 [(1, pt 1 0), (2, pt 2 0), (3, pt 3 0), (4, iv 0)])) (h2 := [ab 84 e84 p1, cl 71 [.int .u8 p0, sv 0 p1.length ANY], cl 24 [iv 0, .slice none 0 0], cl 24 [iv (w64 (1 + (Int.tmod (w64 p0) 5))), accV 4 (List.length ([]))], accB 86 (List.length ([])) (List.flatMap e86 ([]))]) (Wk.an [1, 2, 3, 4] (.ac (.lt (.fl (.sl .nil)) (.lt (.fl (.fl .nil)) (.lt (.fl (.cons (Rn.accN) .nil)) (.cons At.accN (.nil _)))))) [pt 1 0, pt 2 0, pt 3 0, iv 0] (.pp (.pp (.pp (.fl .nil))))) (TL.post (L40l0 p0 p1 0 ([]) r36 h37) ?_))
 rintro e a1 h1 hp
 obtain ⟨rfl, hw⟩ := hp
 refine ⟨(st 45 [(2, pt 1 0), (3, pt 2 0)]), [ab 84 e84 p1, cl 24 [iv 0, .slice none 0 0], cl 24 [iv (w64 (1 + (Int.tmod (w64 p0) 5))), accV 3 r36.length], ab 86 e86 r36], (NX.bkX (NX.sq (TS.sq (TS.rg (TI.rn 2 [2] [0, 1, 3] (st 45 [(2, pt 1 0)]) [ab 84 e84 p1, cl 24 [iv (w64 (1 + (Int.tmod (w64 p0) 5))), accV 3 r36.length], .dead, ab 86 e86 r36] (TI.dn (NX.sq (TS.rt ?_)))))))), hw⟩
 have hF := Option.some.inj hF
 subst hF
 exact ⟨.inr rfl, rfl, ag [iv (w64 (1 + (Int.tmod (w64 p0) 5))), accV 3 r36.length], by kernel_rfl, WkV.made (L := 1) (f := [3]) (by decide) (by decide) rfl (.ac (.nil _)) (Rn.agg' (.fl (.cons (Rn.acc (Nat.le_of_ble_eq_true rfl) rfl) .nil)))⟩
theorem C40 (p0 : Int) (p1 : (List (Int × Int))) (r : (Int × (List ((Int × Bool) × (Int × Bool))))) (hF : F40 p0 p1 = some r) : PureSim Try.prog 40 [ag [.int .u8 p0, sv 0 p1.length ANY]] [ab 84 e84 p1] (V40 1 r) (N40 1 r) :=
 PureSim.of_Fin Try.func40 (c := c40) (by kernel_rfl) (by kernel_rfl) 1 rfl [0] [0] (by kernel_rfl) (B40 p0 p1 r hF)
noncomputable def c43 : Code := Try.f43.code
def F43 (p0 : Int) (p1 : Bool) : Option (Int × Bool) :=
 some (p0, !p1)
def V43 (b : Nat) (r : (Int × Bool)) : Value := ag [iv r.1, .bool r.2]
def N43 (b : Nat) (r : (Int × Bool)) : List Blk := []
theorem B43 (p0 : Int) (p1 : Bool) (r : (Int × Bool)) (hF : F43 p0 p1 = some r) : TS Try.prog 0 0 c43 (st 9 [(0, ag [iv p0, .bool p1])]) [] (NX Try.prog 0 0 [] (FinP Try.prog Try.f43 0 (V43 0 r) (N43 0 r))) := by
 unfold F43 at hF
 refine TS.sq (TS.rg (TI.rn 2 [1, 2] [0, 1] (st 9 [(1, pt 0 0), (2, pt 1 0)]) [cl 50 [iv p0, .bool p1], cl 50 [iv 0, .bool false]] (TI.dn (NX.sq (TS.sq (TS.rg (TI.rn 7 [2] [1] (st 9 [(2, pt 1 0)]) [.dead, cl 50 [iv p0, .bool (!p1)]] (TI.dn ?_))))))))
 refine NX.sq (TS.rt ?_)
 have hF := Option.some.inj hF
 subst hF
 exact ⟨.inr rfl, rfl, ag [iv p0, .bool (!p1)], by kernel_rfl, WkV.flat0 (by kernel_rfl) (Nat.le_of_ble_eq_true rfl)⟩
theorem C43 (p0 : Int) (p1 : Bool) (r : (Int × Bool)) (hF : F43 p0 p1 = some r) : PureSim Try.prog 43 [ag [iv p0, .bool p1]] [] (V43 0 r) (N43 0 r) :=
 PureSim.of_Fin Try.func43 (c := c43) (by kernel_rfl) (by kernel_rfl) 0 rfl [0] [] (by kernel_rfl) (B43 p0 p1 r hF)
end
end Go.Proofs.Ytiaippkjgmccoaa
