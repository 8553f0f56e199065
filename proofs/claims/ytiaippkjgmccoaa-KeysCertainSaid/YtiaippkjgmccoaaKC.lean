/- What functions of the program compute, and that they do. -/
import Derived.Test.YtiaippkjgmccoaaKB
set_option linter.unusedVariables false
set_option linter.unusedSimpArgs false
set_option maxRecDepth 100000
set_option maxHeartbeats 4000000
namespace Go.Proofs.Ytiaippkjgmccoaa
open Go Go.Cl
noncomputable section
noncomputable def c20 : Code := Try.f20.code
def H20_0 (p1 : (List ((Int × Bool) × (Int × Bool)))) (p2 : (List (Int × Bool))) (p0 : Int) (v27 : (List ((Int × Bool) × (Int × Bool)))) (v28 : (List Int)) (v26 : Int) : List Blk := [ab 86 e86 p1, ab 50 e50 p2, cl 102 [.bool false, .func (.func 57) ⟨[pt 3 0]⟩ ⟨[]⟩, iv 1, .bool true, .func (.func 57) ⟨[pt 3 0]⟩ ⟨[]⟩, iv 0], cl 126 [iv p0, sv 0 p1.length ANY, .map (some 4)], mb 50 u50 u50 v27, ab 3 e3 v28, cl 102 [.bool false, .func (.func 57) ⟨[pt 3 0]⟩ ⟨[]⟩, iv 1], .dead, .cells 50 (List.flatMap e50 (p2 ++ [(v26, false)]))]
def H20_1 (p1 : (List ((Int × Bool) × (Int × Bool)))) (p2 : (List (Int × Bool))) (p0 : Int) (r48 : (Bool × (List ((Int × Bool) × (Int × Bool))))) (v28 : (List Int)) (v26 : Int) : List Blk := [ab 86 e86 p1, ab 50 e50 p2, cl 102 [.bool false, .func (.func 57) ⟨[pt 3 0]⟩ ⟨[]⟩, iv 1, .bool true, .func (.func 57) ⟨[pt 3 0]⟩ ⟨[]⟩, iv 0], cl 126 [iv p0, sv 0 p1.length ANY, .map (some 4)], mb 50 u50 u50 r48.2, ab 3 e3 v28, cl 102 [.bool true, .func (.func 57) ⟨[pt 3 0]⟩ ⟨[]⟩, iv 0], .dead, .cells 50 (List.flatMap e50 (p2 ++ [(v26, true)]))]
def H20_2 (p1 : (List ((Int × Bool) × (Int × Bool)))) (p2 : (List (Int × Bool))) (p0 : Int) (v27 : (List ((Int × Bool) × (Int × Bool)))) (v28 : (List Int)) (v26 : Int) : List Blk := [ab 86 e86 p1, ab 50 e50 p2, cl 102 [.bool false, .func (.func 57) ⟨[pt 3 0]⟩ ⟨[]⟩, iv 1, .bool true, .func (.func 57) ⟨[pt 3 0]⟩ ⟨[]⟩, iv 0], cl 126 [iv p0, sv 0 p1.length ANY, .map (some 4)], mb 50 u50 u50 v27, ab 3 e3 v28, cl 102 [.bool false, .func (.func 57) ⟨[pt 3 0]⟩ ⟨[]⟩, iv 1], cl 50 [iv v26, .bool false]]
def H20_3 (p1 : (List ((Int × Bool) × (Int × Bool)))) (p2 : (List (Int × Bool))) (p0 : Int) (r48 : (Bool × (List ((Int × Bool) × (Int × Bool))))) (v28 : (List Int)) (v26 : Int) : List Blk := [ab 86 e86 p1, ab 50 e50 p2, cl 102 [.bool false, .func (.func 57) ⟨[pt 3 0]⟩ ⟨[]⟩, iv 1, .bool true, .func (.func 57) ⟨[pt 3 0]⟩ ⟨[]⟩, iv 0], cl 126 [iv p0, sv 0 p1.length ANY, .map (some 4)], mb 50 u50 u50 r48.2, ab 3 e3 v28, cl 102 [.bool true, .func (.func 57) ⟨[pt 3 0]⟩ ⟨[]⟩, iv 0], cl 50 [iv v26, .bool true]]
def H20_4 (p1 : (List ((Int × Bool) × (Int × Bool)))) (p2 : (List (Int × Bool))) (p0 : Int) (r48 : (Bool × (List ((Int × Bool) × (Int × Bool))))) (v28 : (List Int)) : List Blk := [ab 86 e86 p1, ab 50 e50 p2, cl 102 [.bool false, .func (.func 57) ⟨[pt 3 0]⟩ ⟨[]⟩, iv 1, .bool true, .func (.func 57) ⟨[pt 3 0]⟩ ⟨[]⟩, iv 0], cl 126 [iv p0, sv 0 p1.length ANY, .map (some 4)], mb 50 u50 u50 r48.2, ab 3 e3 v28, cl 102 [.bool true, .func (.func 57) ⟨[pt 3 0]⟩ ⟨[]⟩, iv 0]]
def H20_5 (p1 : (List ((Int × Bool) × (Int × Bool)))) (p2 : (List (Int × Bool))) (p0 : Int) (v27 : (List ((Int × Bool) × (Int × Bool)))) (v28 : (List Int)) : List Blk := [ab 86 e86 p1, ab 50 e50 p2, cl 102 [.bool false, .func (.func 57) ⟨[pt 3 0]⟩ ⟨[]⟩, iv 1, .bool true, .func (.func 57) ⟨[pt 3 0]⟩ ⟨[]⟩, iv 0], cl 126 [iv p0, sv 0 p1.length ANY, .map (some 4)], mb 50 u50 u50 v27, ab 3 e3 v28, cl 102 [.bool false, .func (.func 57) ⟨[pt 3 0]⟩ ⟨[]⟩, iv 1]]
def H20_6 (p1 : (List ((Int × Bool) × (Int × Bool)))) (p2 : (List (Int × Bool))) (p0 : Int) (v27 : (List ((Int × Bool) × (Int × Bool)))) (v28 : (List Int)) : List Blk := [ab 86 e86 p1, ab 50 e50 p2, cl 102 [.bool false, .func (.func 57) ⟨[pt 3 0]⟩ ⟨[]⟩, iv 1, .bool true, .func (.func 57) ⟨[pt 3 0]⟩ ⟨[]⟩, iv 0], cl 126 [iv p0, sv 0 p1.length ANY, .map (some 4)], mb 50 u50 u50 v27, ab 3 e3 v28]
def H20_7 (p1 : (List ((Int × Bool) × (Int × Bool)))) (p2 : (List (Int × Bool))) (p0 : Int) : List Blk := [ab 86 e86 p1, ab 50 e50 p2, cl 24 [iv p0, sv 0 p1.length ANY], .dead, .dead, .map 50 (List.map (mEnc u50 u50) ([] : (List ((Int × Bool) × (Int × Bool))))), cl 126 [iv p0, sv 0 p1.length ANY, .map (some 5)]]
def H20_8 (p1 : (List ((Int × Bool) × (Int × Bool)))) (p2 : (List (Int × Bool))) (p0 : Int) (r8 : ((Int × Bool) × Bool × (List ((Int × Bool) × (Int × Bool))))) : List Blk := [ab 86 e86 p1, ab 50 e50 p2, cl 24 [iv p0, sv 0 p1.length ANY], .dead, .dead, mb 50 u50 u50 r8.2.2, cl 126 [iv p0, sv 0 p1.length ANY, .map (some 5)], .dead]
def H20_9 (p1 : (List ((Int × Bool) × (Int × Bool)))) (p2 : (List (Int × Bool))) (p0 : Int) (m13 : (Bool × (List ((Int × Bool) × (Int × Bool))))) : List Blk := [ab 86 e86 p1, ab 50 e50 p2, cl 24 [iv p0, sv 0 p1.length ANY], .dead, .dead, mb 50 u50 u50 m13.2, cl 126 [iv p0, sv 0 p1.length ANY, .map (some 5)], .dead]
def S20_10 (p2 : (List (Int × Bool))) (p0 : Int) (p1 : (List ((Int × Bool) × (Int × Bool)))) : CAct := (st 62 [(1, sv 1 p2.length ANY), (2, pt 2 0), (15, ag [iv p0, sv 0 p1.length ANY]), (16, sv 1 p2.length ANY)])
def H20_11 (p1 : (List ((Int × Bool) × (Int × Bool)))) (p2 : (List (Int × Bool))) (p0 : Int) : List Blk := [ab 86 e86 p1, ab 50 e50 p2, cl 24 [iv p0, sv 0 p1.length ANY], .dead, .dead, .dead, .dead, .dead]
def H20_12 (p1 : (List ((Int × Bool) × (Int × Bool)))) (p2 : (List (Int × Bool))) (p0 : Int) : List Blk := [ab 86 e86 p1, ab 50 e50 p2, cl 24 [iv p0, sv 0 p1.length ANY], .dead]
def H20_13 (p1 : (List ((Int × Bool) × (Int × Bool)))) (p2 : (List (Int × Bool))) : List Blk := [ab 86 e86 p1, ab 50 e50 p2, .dead, .dead]
def H20_14 (p1 : (List ((Int × Bool) × (Int × Bool)))) (p2 : (List (Int × Bool))) : List Blk := [ab 86 e86 p1, ab 50 e50 p2]
noncomputable def c20f55 : Code := Try.f55.code
noncomputable def c20f66 : Code := Try.f66.code
def F20l0 (p0 : Int) (p1 : (List ((Int × Bool) × (Int × Bool)))) (p2 : (List (Int × Bool))) (v28 : (List Int)) (v26 : Int) (v27 : (List ((Int × Bool) × (Int × Bool)))) : Option (List Int) :=
 if decide (v26 < p0) then
  if List.length p2 ≤ 1000000000 then
   F57 1 p0 p1 v27 (p2 ++ [(v26, false)]) >>= fun r48 =>
   (
    if !r48.1 then
     some 1
    else
     some 2
   : Option Int) >>= fun m53 =>
   F57 1 p0 p1 r48.2 (p2 ++ [(v26, true)]) >>= fun r55 =>
   (
    if !r55.1 then
     some 0
    else
     some m53
   : Option Int) >>= fun m60 =>
   if List.length v28 ≤ 1000000000 then
    F20l0 p0 p1 p2 (v28 ++ [m60]) (w64 (v26 + 1)) r55.2
   else none
  else none
 else
  some v28
 partial_fixpoint
def F20 (p0 : Int) (p1 : (List ((Int × Bool) × (Int × Bool)))) (p2 : (List (Int × Bool))) : Option ((List Int) × Int) :=
 F26 p0 p1 >>= fun r1 =>
 if r1 != 0 then
  some ([], r1)
 else
  if decide ((p2.length : Int) > 24) then
   some ([], 3)
  else
   F64 p0 p1 p2 >>= fun r5 =>
   if !r5 then
    some ([], 6)
   else
    F75 1 p0 p1 ([] : (List ((Int × Bool) × (Int × Bool)))) >>= fun r8 =>
    (
     if r8.2.1 then
      some (true, r8.2.2)
     else
      F57 1 p0 p1 r8.2.2 p2 >>= fun r11 =>
      some (!r11.1, r11.2)
    : Option (Bool × (List ((Int × Bool) × (Int × Bool))))) >>= fun m13 =>
    if m13.1 then
     some ([], 13)
    else
     F20l0 p0 p1 p2 ([]) 0 m13.2 >>= fun r65 =>
     some (r65, 0)
def V20 (b : Nat) (r : ((List Int) × Int)) : Value := .tuple ⟨[accV (b + 0) r.1.length, iv r.2]⟩
def N20 (b : Nat) (r : ((List Int) × Int)) : List Blk := [ab 3 e3 r.1]
def P20l0 (p0 : Int) (p1 : (List ((Int × Bool) × (Int × Bool)))) (p2 : (List (Int × Bool))) (r : (List Int)) : Post := fun e a h => e = .exit 0 ∧ Wk Try.prog 2 2 a h (st 62 [(9, accV 2 r.length)]) [ab 86 e86 p1, ab 50 e50 p2, ab 3 e3 r]
theorem L20l0 (p0 : Int) (p1 : (List ((Int × Bool) × (Int × Bool)))) (p2 : (List (Int × Bool))) (v28 : (List Int)) (v26 : Int) (v27 : (List ((Int × Bool) × (Int × Bool)))) (r : (List Int)) (hF : F20l0 p0 p1 p2 v28 v26 v27 = some r) : TL Try.prog 2 2 c20.s2.s2.s2.s2.s2.s1.s2.bd.bd (st 62 [(1, sv 1 p2.length ANY), (8, sv 2 2 2), (9, accV 5 v28.length), (31, iv p0), (32, iv v26)]) (H20_6 p1 p2 p0 v27 v28) (P20l0 p0 p1 p2 r) := by
 refine F20l0.partial_correctness p0 p1 p2 (motive := fun v28 v26 v27 r => TL Try.prog 2 2 c20.s2.s2.s2.s2.s2.s1.s2.bd.bd (st 62 [(1, sv 1 p2.length ANY), (8, sv 2 2 2), (9, accV 5 v28.length), (31, iv p0), (32, iv v26)]) (H20_6 p1 p2 p0 v27 v28) (P20l0 p0 p1 p2 r)) ?_ v28 v26 v27 r hF
 clear hF r v28 v26 v27
 intro again ih v28 v26 v27 r hF
 refine TL.round (TS.sq (TS.rg (TI.ra 1 [1, 8, 9, 31, 32, 33] (st 62 [(1, sv 1 p2.length ANY), (8, sv 2 2 2), (9, accV 5 v28.length), (31, iv p0), (32, iv v26), (33, .bool (decide (v26 < p0)))]) (TI.dn (NX.sq (TS.sq ?_))))))
 refine TS.cd (.tmp 33) (decide (v26 < p0)) (fun hc46 => ?_) (fun hc46 => ?_)
 · replace hF := of_pos hF hc46
   refine TS.sk (NX.sq (TS.sq (TS.bk 1 (TS.sq (TS.rg (TI.ra 2 [1, 8, 9, 10, 31, 32] (st 62 [(1, sv 1 p2.length ANY), (8, sv 2 2 2), (9, accV 5 v28.length), (10, iv v26), (31, iv p0), (32, iv v26)]) (TI.dn (NX.sq ?_))))))))
   refine TS.sq (TS.rg (TI.ra 1 [1, 8, 9, 10, 11, 31, 32] (st 62 [(1, sv 1 p2.length ANY), (8, sv 2 2 2), (9, accV 5 v28.length), (10, iv v26), (11, iv 2), (31, iv p0), (32, iv v26)]) (TI.dn (NX.sq (TS.sq (TS.sq (TS.rg (TI.ra 3 [1, 8, 9, 10, 11, 31, 32, 35, 36, 37] (st 62 [(1, sv 1 p2.length ANY), (8, sv 2 2 2), (9, accV 5 v28.length), (10, iv v26), (11, iv 2), (31, iv p0), (32, iv v26), (35, sv 2 2 2), (36, iv 2), (37, iv 0)]) ?_))))))))
   refine TI.dn (NX.sq (TS.bk 2 (TS.lp (TL.round (TS.sq (TS.rg (TI.ra 1 [1, 8, 9, 10, 11, 31, 32, 35, 36, 37, 38] (st 62 [(1, sv 1 p2.length ANY), (8, sv 2 2 2), (9, accV 5 v28.length), (10, iv v26), (11, iv 2), (31, iv p0), (32, iv v26), (35, sv 2 2 2), (36, iv 2), (37, iv 0), (38, .bool true)]) (TI.dn ?_))))))))
   refine NX.sq (TS.sq (TS.cdT (.tmp 38) (TS.sk (NX.sq (TS.sq (TS.bk 3 (TS.sq (TS.rg ?_))))))))
   refine TI.rn 4 [1, 8, 9, 10, 11, 13, 31, 32, 35, 36, 37] [0, 1, 2, 3, 4, 5, 6] (st 62 [(1, sv 1 p2.length ANY), (8, sv 2 2 2), (9, accV 5 v28.length), (10, iv v26), (11, iv 2), (13, pt 6 0), (31, iv p0), (32, iv v26), (35, sv 2 2 2), (36, iv 2), (37, iv 0)]) (H20_5 p1 p2 p0 v27 v28) (TI.dn (NX.sq (TS.sq ?_)))
   have hX := of_guard hF
   clear hF
   obtain ⟨hg47, hF⟩ := hX
   have hX := of_do hF
   clear hF
   obtain ⟨r48, h49, hF⟩ := hX
   have hT : ∀ e ∈ ([⟨58, [sv 1 p2.length ANY], (H20_5 p1 p2 p0 v27 v28), fl 1 0 p2, []⟩] : List Entry), PureSim Try.prog e.g e.args e.h e.v e.new := by
    intro e he
    simp only [List.mem_cons, List.not_mem_nil, or_false] at he
    rcases he with rfl
    exact (PureSim.ren (hc := [ab 50 e50 p2]) (fun i => List.getD [(1, 0)] i (0, 0)) (C58 p2 hg47) (.cons (At.win (s := 2) (b := 1) (off := 0) (L := p2) (ys := p2) (by rfl) win_all (holds_acc (hp := (H20_5 p1 p2 p0 v27 v28)) (b := 1) (T := 50) (enc := e50) (L := p2) (by kernel_rfl)) (fun _ => rfl) (fun _ => rfl)) (.nil _)) (.cons (Rn.any _ _ _ _ _ _ (Nat.le_of_ble_eq_true rfl) rfl rfl (by decide)) .nil) (Rn.flr (Nat.le_of_ble_eq_true rfl) rfl hg47) newflat_nil)
   refine TS.drawT [⟨58, [sv 1 p2.length ANY], (H20_5 p1 p2 p0 v27 v28), fl 1 0 p2, []⟩] hT mixed 10 [] (st 62 [(1, sv 1 p2.length ANY), (8, sv 2 2 2), (9, accV 5 v28.length), (10, iv v26), (11, iv 2), (13, pt 6 0), (31, iv p0), (32, iv v26), (35, sv 2 2 2), (36, iv 2), (37, iv 0), (41, pt 6 1), (42, .func (.func 57) ⟨[pt 3 0]⟩ ⟨[]⟩), (43, sv 1 p2.length ANY), (44, fl 1 0 p2), (45, iv v26), (46, pt 6 0), (47, .bool false), (48, ag [iv v26, .bool false]), (49, sv 7 1 1), (50, sv 8 (List.length (p2 ++ [(v26, false)])) UNK)]) [ab 86 e86 p1, ab 50 e50 p2, cl 102 [.bool false, .func (.func 57) ⟨[pt 3 0]⟩ ⟨[]⟩, iv 1, .bool true, .func (.func 57) ⟨[pt 3 0]⟩ ⟨[]⟩, iv 0], cl 126 [iv p0, sv 0 p1.length ANY, .map (some 4)], mb 50 u50 u50 v27, ab 3 e3 v28, cl 102 [.bool false, .func (.func 57) ⟨[pt 3 0]⟩ ⟨[]⟩, iv 1], cl 50 [iv v26, .bool false], .cells 50 (List.flatMap e50 (p2 ++ [(v26, false)]))] ?_ ?_
   · exact QJ.rn (qs (st 62 [(1, sv 1 p2.length ANY), (8, sv 2 2 2), (9, accV 5 v28.length), (10, iv v26), (11, iv 2), (13, pt 6 0), (31, iv p0), (32, iv v26), (35, sv 2 2 2), (36, iv 2), (37, iv 0), (41, pt 6 1), (42, .func (.func 57) ⟨[pt 3 0]⟩ ⟨[]⟩), (43, sv 1 p2.length ANY)]) (H20_5 p1 p2 p0 v27 v28) [] []) 3 (QJ.o { val := fl 1 0 p2, new := [] } (qOf_call (g := 58) (args := [sv 1 p2.length ANY]) (by kernel_rfl) lookC_hit) (QJ.rn (qs (st 62 [(1, sv 1 p2.length ANY), (8, sv 2 2 2), (9, accV 5 v28.length), (10, iv v26), (11, iv 2), (13, pt 6 0), (31, iv p0), (32, iv v26), (35, sv 2 2 2), (36, iv 2), (37, iv 0), (41, pt 6 1), (42, .func (.func 57) ⟨[pt 3 0]⟩ ⟨[]⟩), (43, sv 1 p2.length ANY), (44, fl 1 0 p2), (45, iv v26), (46, pt 6 0), (47, .bool false), (48, ag [iv v26, .bool false]), (49, sv 7 1 1)]) (H20_2 p1 p2 p0 v27 v28 v26) [(8, 7, 8)] []) 5 (QJ.o { val := sv 8 (List.length (p2 ++ [(v26, false)])) UNK, new := [.cells 50 (List.flatMap e50 (p2 ++ [(v26, false)]))] } (q_appF (P := Try.prog) (base := 2) (hp := (H20_2 p1 p2 p0 v27 v28 v26)) (n := 8) (s := 2) (enc := e50) (ts := #[25, 25]) (e := 50) (bytes := 16) (z := ag [iv 0, .bool false]) (w := sv 7 1 1) (ys2 := [(v26, false)]) (t := 50) (b := 1) (L := p2) win_all (holds_acc (hp := (H20_2 p1 p2 p0 v27 v28 v26)) (b := 1) (T := 50) (enc := e50) (L := p2) (by kernel_rfl)) (by kernel_rfl) (litK_old (by decide)) (by kernel_rfl) (by kernel_rfl) (by kernel_rfl) (by kernel_rfl) (by kernel_rfl) (by kernel_rfl) (by kernel_rfl) hg47 (fun _ => rfl) (by simp only [List.length_cons, List.length_nil]; omega)) (QJ.dn ⟨by kernel_rfl, by kernel_rfl, by kernel_rfl⟩))))
   refine TI.rn 0 [1, 8, 9, 10, 11, 13, 31, 32, 35, 36, 37, 42, 50] [0, 1, 2, 3, 4, 5, 6, 8] (st 62 [(1, sv 1 p2.length ANY), (8, sv 2 2 2), (9, accV 5 v28.length), (10, iv v26), (11, iv 2), (13, pt 6 0), (31, iv p0), (32, iv v26), (35, sv 2 2 2), (36, iv 2), (37, iv 0), (42, .func (.func 57) ⟨[pt 3 0]⟩ ⟨[]⟩), (50, sv 8 (List.length (p2 ++ [(v26, false)])) UNK)]) (H20_0 p1 p2 p0 v27 v28 v26) (TI.icallM (g := 57) (args := [pt 3 0, sv 8 (List.length (p2 ++ [(v26, false)])) UNK]) (v := .bool r48.1) (by kernel_rfl) (ImpSim.frameB (n := 4) (h := (H20_0 p1 p2 p0 v27 v28 v26)) (ro := [cl 126 [iv p0, sv 1 p1.length ANY, .map (some 3)], ab 86 e86 p1, accB 50 (List.length (p2 ++ [(v26, false)])) (List.flatMap e50 (p2 ++ [(v26, false)]))]) (wr := [mb 50 u50 u50 v27]) (wr' := [mb 50 u50 u50 r48.2]) (fun i => List.getD [(3, 0), (0, 0), (8, 0), (4, 0)] i (0, 0)) (C57 1 _ _ _ _ _ h49) rfl rfl (.cons (At.blk (b1 := cl 126 [iv p0, sv 0 p1.length ANY, .map (some 4)]) (by kernel_rfl) (RnB.lit (.fl (.cons (Rn.any _ _ _ _ _ _ (Nat.le_of_ble_eq_true rfl) rfl rfl (by decide)) (.cons (Rn.map _ (Nat.le_of_ble_eq_true rfl)) .nil))))) (.ac (.cons (At.accU (by kernel_rfl) rfl (fun _ => rfl)) (.cons (At.blk (by kernel_rfl) (RnB.map _ _)) (.nil _))))) (by kernel_rfl) (by kernel_rfl) (by kernel_rfl) (.pp (.cons (Rn.any _ _ _ _ _ _ (Nat.le_of_ble_eq_true rfl) rfl rfl (by decide)) .nil)) (by kernel_rfl)) [1, 8, 9, 10, 11, 13, 31, 32, 35, 36, 37, 51] [0, 1, 2, 3, 4, 5, 6] (a2 := (st 62 [(1, sv 1 p2.length ANY), (8, sv 2 2 2), (9, accV 5 v28.length), (10, iv v26), (11, iv 2), (13, pt 6 0), (31, iv p0), (32, iv v26), (35, sv 2 2 2), (36, iv 2), (37, iv 0), (51, .bool r48.1)])) (h2 := [ab 86 e86 p1, ab 50 e50 p2, cl 102 [.bool false, .func (.func 57) ⟨[pt 3 0]⟩ ⟨[]⟩, iv 1, .bool true, .func (.func 57) ⟨[pt 3 0]⟩ ⟨[]⟩, iv 0], cl 126 [iv p0, sv 0 p1.length ANY, .map (some 4)], mb 50 u50 u50 r48.2, ab 3 e3 v28, cl 102 [.bool false, .func (.func 57) ⟨[pt 3 0]⟩ ⟨[]⟩, iv 1], .dead, .dead]) (by kernel_rfl) (TI.ra 1 [1, 8, 9, 10, 11, 13, 31, 32, 35, 36, 37, 52] (st 62 [(1, sv 1 p2.length ANY), (8, sv 2 2 2), (9, accV 5 v28.length), (10, iv v26), (11, iv 2), (13, pt 6 0), (31, iv p0), (32, iv v26), (35, sv 2 2 2), (36, iv 2), (37, iv 0), (52, .bool (!r48.1))]) (TI.dn (NX.sq ?_))))
   have hX := of_do hF
   clear hF
   obtain ⟨m53, hm54, hF⟩ := hX
   have hK : NX Try.prog 2 2 [.bk 3, .sq c20.s2.s2.s2.s2.s2.s1.s2.bd.bd.s2.s2.s1.bd.s2.s2.s1.s2.bd.bd.s2.s2.s2] (Rd Try.prog 2 2 c20.s2.s2.s2.s2.s2.s1.s2.bd.bd.s2.s2.s1.bd.s2.s2.s1.s2.bd.bd (NX Try.prog 2 2 [.bk 2, .sq c20.s2.s2.s2.s2.s2.s1.s2.bd.bd.s2.s2.s1.bd.s2.s2.s2, .bk 1, .sq c20.s2.s2.s2.s2.s2.s1.s2.bd.bd.s2.s2.s2] (Rd Try.prog 2 2 c20.s2.s2.s2.s2.s2.s1.s2.bd.bd (P20l0 p0 p1 p2 r)))) .normal (st 62 [(1, sv 1 p2.length ANY), (8, sv 2 2 2), (9, accV 5 v28.length), (10, iv v26), (11, iv m53), (31, iv p0), (32, iv v26), (35, sv 2 2 2), (36, iv 2), (37, iv 0)]) [ab 86 e86 p1, ab 50 e50 p2, cl 102 [.bool false, .func (.func 57) ⟨[pt 3 0]⟩ ⟨[]⟩, iv 1, .bool true, .func (.func 57) ⟨[pt 3 0]⟩ ⟨[]⟩, iv 0], cl 126 [iv p0, sv 0 p1.length ANY, .map (some 4)], mb 50 u50 u50 r48.2, ab 3 e3 v28] := by
    refine NX.bk (NX.sq (TS.rg (TI.ra 2 [1, 8, 9, 10, 11, 31, 32, 35, 36, 37] (st 62 [(1, sv 1 p2.length ANY), (8, sv 2 2 2), (9, accV 5 v28.length), (10, iv v26), (11, iv m53), (31, iv p0), (32, iv v26), (35, sv 2 2 2), (36, iv 2), (37, iv 1)]) (TI.dn ?_))))
    refine Rd.again Wk.refl (TL.round (TS.sq (TS.rg (TI.ra 1 [1, 8, 9, 10, 11, 31, 32, 35, 36, 37, 38] (st 62 [(1, sv 1 p2.length ANY), (8, sv 2 2 2), (9, accV 5 v28.length), (10, iv v26), (11, iv m53), (31, iv p0), (32, iv v26), (35, sv 2 2 2), (36, iv 2), (37, iv 1), (38, .bool true)]) (TI.dn (NX.sq (TS.sq (TS.cdT (.tmp 38) (TS.sk ?_)))))))))
    refine NX.sq (TS.sq (TS.bk 3 (TS.sq (TS.rg (TI.rn 4 [1, 8, 9, 10, 11, 13, 31, 32, 35, 36, 37] [0, 1, 2, 3, 4, 5, 6] (st 62 [(1, sv 1 p2.length ANY), (8, sv 2 2 2), (9, accV 5 v28.length), (10, iv v26), (11, iv m53), (13, pt 6 0), (31, iv p0), (32, iv v26), (35, sv 2 2 2), (36, iv 2), (37, iv 1)]) (H20_4 p1 p2 p0 r48 v28) (TI.dn (NX.sq (TS.sq ?_))))))))
    have hX := of_do hF
    clear hF
    obtain ⟨r55, h56, hF⟩ := hX
    have hT : ∀ e ∈ ([⟨58, [sv 1 p2.length ANY], (H20_4 p1 p2 p0 r48 v28), fl 1 0 p2, []⟩] : List Entry), PureSim Try.prog e.g e.args e.h e.v e.new := by
     intro e he
     simp only [List.mem_cons, List.not_mem_nil, or_false] at he
     rcases he with rfl
     exact (PureSim.ren (hc := [ab 50 e50 p2]) (fun i => List.getD [(1, 0)] i (0, 0)) (C58 p2 hg47) (.cons (At.win (s := 2) (b := 1) (off := 0) (L := p2) (ys := p2) (by rfl) win_all (holds_acc (hp := (H20_4 p1 p2 p0 r48 v28)) (b := 1) (T := 50) (enc := e50) (L := p2) (by kernel_rfl)) (fun _ => rfl) (fun _ => rfl)) (.nil _)) (.cons (Rn.any _ _ _ _ _ _ (Nat.le_of_ble_eq_true rfl) rfl rfl (by decide)) .nil) (Rn.flr (Nat.le_of_ble_eq_true rfl) rfl hg47) newflat_nil)
    refine TS.drawT [⟨58, [sv 1 p2.length ANY], (H20_4 p1 p2 p0 r48 v28), fl 1 0 p2, []⟩] hT mixed 10 [] (st 62 [(1, sv 1 p2.length ANY), (8, sv 2 2 2), (9, accV 5 v28.length), (10, iv v26), (11, iv m53), (13, pt 6 0), (31, iv p0), (32, iv v26), (35, sv 2 2 2), (36, iv 2), (37, iv 1), (41, pt 6 1), (42, .func (.func 57) ⟨[pt 3 0]⟩ ⟨[]⟩), (43, sv 1 p2.length ANY), (44, fl 1 0 p2), (45, iv v26), (46, pt 6 0), (47, .bool true), (48, ag [iv v26, .bool true]), (49, sv 7 1 1), (50, sv 8 (List.length (p2 ++ [(v26, true)])) UNK)]) [ab 86 e86 p1, ab 50 e50 p2, cl 102 [.bool false, .func (.func 57) ⟨[pt 3 0]⟩ ⟨[]⟩, iv 1, .bool true, .func (.func 57) ⟨[pt 3 0]⟩ ⟨[]⟩, iv 0], cl 126 [iv p0, sv 0 p1.length ANY, .map (some 4)], mb 50 u50 u50 r48.2, ab 3 e3 v28, cl 102 [.bool true, .func (.func 57) ⟨[pt 3 0]⟩ ⟨[]⟩, iv 0], cl 50 [iv v26, .bool true], .cells 50 (List.flatMap e50 (p2 ++ [(v26, true)]))] ?_ ?_
    · exact QJ.rn (qs (st 62 [(1, sv 1 p2.length ANY), (8, sv 2 2 2), (9, accV 5 v28.length), (10, iv v26), (11, iv m53), (13, pt 6 0), (31, iv p0), (32, iv v26), (35, sv 2 2 2), (36, iv 2), (37, iv 1), (41, pt 6 1), (42, .func (.func 57) ⟨[pt 3 0]⟩ ⟨[]⟩), (43, sv 1 p2.length ANY)]) (H20_4 p1 p2 p0 r48 v28) [] []) 3 (QJ.o { val := fl 1 0 p2, new := [] } (qOf_call (g := 58) (args := [sv 1 p2.length ANY]) (by kernel_rfl) lookC_hit) (QJ.rn (qs (st 62 [(1, sv 1 p2.length ANY), (8, sv 2 2 2), (9, accV 5 v28.length), (10, iv v26), (11, iv m53), (13, pt 6 0), (31, iv p0), (32, iv v26), (35, sv 2 2 2), (36, iv 2), (37, iv 1), (41, pt 6 1), (42, .func (.func 57) ⟨[pt 3 0]⟩ ⟨[]⟩), (43, sv 1 p2.length ANY), (44, fl 1 0 p2), (45, iv v26), (46, pt 6 0), (47, .bool true), (48, ag [iv v26, .bool true]), (49, sv 7 1 1)]) (H20_3 p1 p2 p0 r48 v28 v26) [(8, 7, 8)] []) 5 (QJ.o { val := sv 8 (List.length (p2 ++ [(v26, true)])) UNK, new := [.cells 50 (List.flatMap e50 (p2 ++ [(v26, true)]))] } (q_appF (P := Try.prog) (base := 2) (hp := (H20_3 p1 p2 p0 r48 v28 v26)) (n := 8) (s := 2) (enc := e50) (ts := #[25, 25]) (e := 50) (bytes := 16) (z := ag [iv 0, .bool false]) (w := sv 7 1 1) (ys2 := [(v26, true)]) (t := 50) (b := 1) (L := p2) win_all (holds_acc (hp := (H20_3 p1 p2 p0 r48 v28 v26)) (b := 1) (T := 50) (enc := e50) (L := p2) (by kernel_rfl)) (by kernel_rfl) (litK_old (by decide)) (by kernel_rfl) (by kernel_rfl) (by kernel_rfl) (by kernel_rfl) (by kernel_rfl) (by kernel_rfl) (by kernel_rfl) hg47 (fun _ => rfl) (by simp only [List.length_cons, List.length_nil]; omega)) (QJ.dn ⟨by kernel_rfl, by kernel_rfl, by kernel_rfl⟩))))
    refine TI.rn 0 [1, 8, 9, 10, 11, 13, 31, 32, 35, 36, 37, 42, 50] [0, 1, 2, 3, 4, 5, 6, 8] (st 62 [(1, sv 1 p2.length ANY), (8, sv 2 2 2), (9, accV 5 v28.length), (10, iv v26), (11, iv m53), (13, pt 6 0), (31, iv p0), (32, iv v26), (35, sv 2 2 2), (36, iv 2), (37, iv 1), (42, .func (.func 57) ⟨[pt 3 0]⟩ ⟨[]⟩), (50, sv 8 (List.length (p2 ++ [(v26, true)])) UNK)]) (H20_1 p1 p2 p0 r48 v28 v26) (TI.icallM (g := 57) (args := [pt 3 0, sv 8 (List.length (p2 ++ [(v26, true)])) UNK]) (v := .bool r55.1) (by kernel_rfl) (ImpSim.frameB (n := 4) (h := (H20_1 p1 p2 p0 r48 v28 v26)) (ro := [cl 126 [iv p0, sv 1 p1.length ANY, .map (some 3)], ab 86 e86 p1, accB 50 (List.length (p2 ++ [(v26, true)])) (List.flatMap e50 (p2 ++ [(v26, true)]))]) (wr := [mb 50 u50 u50 r48.2]) (wr' := [mb 50 u50 u50 r55.2]) (fun i => List.getD [(3, 0), (0, 0), (8, 0), (4, 0)] i (0, 0)) (C57 1 _ _ _ _ _ h56) rfl rfl (.cons (At.blk (b1 := cl 126 [iv p0, sv 0 p1.length ANY, .map (some 4)]) (by kernel_rfl) (RnB.lit (.fl (.cons (Rn.any _ _ _ _ _ _ (Nat.le_of_ble_eq_true rfl) rfl rfl (by decide)) (.cons (Rn.map _ (Nat.le_of_ble_eq_true rfl)) .nil))))) (.ac (.cons (At.accU (by kernel_rfl) rfl (fun _ => rfl)) (.cons (At.blk (by kernel_rfl) (RnB.map _ _)) (.nil _))))) (by kernel_rfl) (by kernel_rfl) (by kernel_rfl) (.pp (.cons (Rn.any _ _ _ _ _ _ (Nat.le_of_ble_eq_true rfl) rfl rfl (by decide)) .nil)) (by kernel_rfl)) [1, 8, 9, 10, 11, 13, 31, 32, 35, 36, 37, 51] [0, 1, 2, 3, 4, 5, 6] (a2 := (st 62 [(1, sv 1 p2.length ANY), (8, sv 2 2 2), (9, accV 5 v28.length), (10, iv v26), (11, iv m53), (13, pt 6 0), (31, iv p0), (32, iv v26), (35, sv 2 2 2), (36, iv 2), (37, iv 1), (51, .bool r55.1)])) (h2 := [ab 86 e86 p1, ab 50 e50 p2, cl 102 [.bool false, .func (.func 57) ⟨[pt 3 0]⟩ ⟨[]⟩, iv 1, .bool true, .func (.func 57) ⟨[pt 3 0]⟩ ⟨[]⟩, iv 0], cl 126 [iv p0, sv 0 p1.length ANY, .map (some 4)], mb 50 u50 u50 r55.2, ab 3 e3 v28, cl 102 [.bool true, .func (.func 57) ⟨[pt 3 0]⟩ ⟨[]⟩, iv 0], .dead, .dead]) (by kernel_rfl) (TI.ra 1 [1, 8, 9, 10, 11, 13, 31, 32, 35, 36, 37, 52] (st 62 [(1, sv 1 p2.length ANY), (8, sv 2 2 2), (9, accV 5 v28.length), (10, iv v26), (11, iv m53), (13, pt 6 0), (31, iv p0), (32, iv v26), (35, sv 2 2 2), (36, iv 2), (37, iv 1), (52, .bool (!r55.1))]) (TI.dn (NX.sq ?_))))
    have hX := of_do hF
    clear hF
    obtain ⟨m60, hm61, hF⟩ := hX
    have hK : NX Try.prog 2 2 [.bk 3, .sq c20.s2.s2.s2.s2.s2.s1.s2.bd.bd.s2.s2.s1.bd.s2.s2.s1.s2.bd.bd.s2.s2.s2] (Rd Try.prog 2 2 c20.s2.s2.s2.s2.s2.s1.s2.bd.bd.s2.s2.s1.bd.s2.s2.s1.s2.bd.bd (NX Try.prog 2 2 [.bk 2, .sq c20.s2.s2.s2.s2.s2.s1.s2.bd.bd.s2.s2.s1.bd.s2.s2.s2, .bk 1, .sq c20.s2.s2.s2.s2.s2.s1.s2.bd.bd.s2.s2.s2] (Rd Try.prog 2 2 c20.s2.s2.s2.s2.s2.s1.s2.bd.bd (P20l0 p0 p1 p2 r)))) .normal (st 62 [(1, sv 1 p2.length ANY), (8, sv 2 2 2), (9, accV 5 v28.length), (10, iv v26), (11, iv m60), (31, iv p0), (32, iv v26), (35, sv 2 2 2), (36, iv 2), (37, iv 1)]) [ab 86 e86 p1, ab 50 e50 p2, cl 102 [.bool false, .func (.func 57) ⟨[pt 3 0]⟩ ⟨[]⟩, iv 1, .bool true, .func (.func 57) ⟨[pt 3 0]⟩ ⟨[]⟩, iv 0], cl 126 [iv p0, sv 0 p1.length ANY, .map (some 4)], mb 50 u50 u50 r55.2, ab 3 e3 v28] := by
     refine NX.bk (NX.sq (TS.rg (TI.ra 2 [1, 8, 9, 10, 11, 31, 32, 35, 36, 37] (st 62 [(1, sv 1 p2.length ANY), (8, sv 2 2 2), (9, accV 5 v28.length), (10, iv v26), (11, iv m60), (31, iv p0), (32, iv v26), (35, sv 2 2 2), (36, iv 2), (37, iv 2)]) (TI.dn ?_))))
     refine Rd.again Wk.refl (TL.round (TS.sq (TS.rg (TI.ra 1 [1, 8, 9, 10, 11, 31, 32, 35, 36, 37, 38] (st 62 [(1, sv 1 p2.length ANY), (8, sv 2 2 2), (9, accV 5 v28.length), (10, iv v26), (11, iv m60), (31, iv p0), (32, iv v26), (35, sv 2 2 2), (36, iv 2), (37, iv 2), (38, .bool false)]) (TI.dn (NX.sq (TS.sq (TS.cdF (.tmp 38) (TS.ex 2 ?_)))))))))
     refine NX.sqX ?_
     refine Rd.out (by simp) (NX.bkX (NX.sq ?_))
     have hX := of_guard hF
     clear hF
     obtain ⟨hg62, hF⟩ := hX
     refine TS.rg (TI.rn 3 [1, 8, 31, 32, 56, 58] [0, 1, 2, 3, 4, 5, 6] (st 62 [(1, sv 1 p2.length ANY), (8, sv 2 2 2), (31, iv p0), (32, iv v26), (56, accV 5 v28.length), (58, sv 6 1 1)]) [ab 86 e86 p1, ab 50 e50 p2, cl 102 [.bool false, .func (.func 57) ⟨[pt 3 0]⟩ ⟨[]⟩, iv 1, .bool true, .func (.func 57) ⟨[pt 3 0]⟩ ⟨[]⟩, iv 0], cl 126 [iv p0, sv 0 p1.length ANY, .map (some 4)], mb 50 u50 u50 r55.2, ab 3 e3 v28, cl 3 [iv m60]] (TI.acc (l := v28) (b := 5) (ts := #[38, 38]) (e := 3) (bytes := 8) (z := iv 0) (y := sv 6 1 1) (ys := [m60]) (xs := List.flatMap e3 ([m60])) (m := 1) (s := 1) (enc := e3) (by kernel_rfl) (by kernel_rfl) (by decide) (by kernel_rfl) (by kernel_rfl) (by kernel_rfl) (by kernel_rfl) (by kernel_rfl) (by kernel_rfl) (by kernel_rfl) (by kernel_rfl) (fun _ => rfl) rfl rfl (by omega) [1, 8, 31, 32, 59] [0, 1, 2, 3, 4, 7] (a2 := (st 62 [(1, sv 1 p2.length ANY), (8, sv 2 2 2), (31, iv p0), (32, iv v26), (59, sv 7 (List.length (v28 ++ [m60])) UNK)])) (h2 := [ab 86 e86 p1, ab 50 e50 p2, cl 102 [.bool false, .func (.func 57) ⟨[pt 3 0]⟩ ⟨[]⟩, iv 1, .bool true, .func (.func 57) ⟨[pt 3 0]⟩ ⟨[]⟩, iv 0], cl 126 [iv p0, sv 0 p1.length ANY, .map (some 4)], mb 50 u50 u50 r55.2, .dead, .dead, .cells 3 (List.flatMap e3 (v28 ++ [m60]))]) (by kernel_rfl) (TI.ra 1 [1, 8, 9, 31, 32] (st 62 [(1, sv 1 p2.length ANY), (8, sv 2 2 2), (9, sv 7 (List.length (v28 ++ [m60])) UNK), (31, iv p0), (32, iv v26)]) (TI.dn (NX.bk (NX.sq (TS.rg (TI.ra 2 [1, 8, 9, 31, 32] (st 62 [(1, sv 1 p2.length ANY), (8, sv 2 2 2), (9, sv 7 (List.length (v28 ++ [m60])) UNK), (31, iv p0), (32, iv (w64 (v26 + 1)))]) ?_))))))))
     refine TI.dn ?_
     exact Rd.again (a2 := (st 62 [(1, sv 1 p2.length ANY), (8, sv 2 2 2), (9, accV 5 (List.length (v28 ++ [m60]))), (31, iv p0), (32, iv (w64 (v26 + 1)))])) (h2 := [ab 86 e86 p1, ab 50 e50 p2, cl 102 [.bool false, .func (.func 57) ⟨[pt 3 0]⟩ ⟨[]⟩, iv 1, .bool true, .func (.func 57) ⟨[pt 3 0]⟩ ⟨[]⟩, iv 0], cl 126 [iv p0, sv 0 p1.length ANY, .map (some 4)], mb 50 u50 u50 r55.2, accB 3 (List.length (v28 ++ [m60])) (List.flatMap e3 (v28 ++ [m60]))]) (Wk.an [2, 3, 4, 7] (.ac (.ac (.lt (.fl (.cons (Rn.func' (.pp .nil) .nil) (.fl (.fl (.cons (Rn.func' (.pp .nil) .nil) (.fl .nil)))))) (.lt (.fl (.sl (.cons (Rn.map _ (Nat.le_of_ble_eq_true rfl)) .nil))) (.cons (At.blk (by kernel_rfl) (RnB.map _ _)) (.cons (At.accU (by kernel_rfl) rfl (fun _ => rfl)) (.nil _))))))) [sv 1 p2.length ANY, sv 2 2 2, sv 7 (List.length (v28 ++ [m60])) UNK, iv p0, iv (w64 (v26 + 1))] (.sl (.sl (.cons (Rn.accU (Nat.le_of_ble_eq_true rfl) rfl (by simp)) (.fl (.fl .nil)))))) (ih (v28 ++ [m60]) (w64 (v26 + 1)) r55.2 _ hF)
    clear hF
    have hF := hm61
    clear hm61
    refine TS.start ?_
    refine TS.cd (.tmp 52) (!r55.1) (fun hc63 => ?_) (fun hc63 => ?_)
    · replace hF := of_pos hF hc63
      refine TS.rg (TI.rn 3 [1, 8, 9, 10, 11, 31, 32, 35, 36, 37] [0, 1, 2, 3, 4, 5] (st 62 [(1, sv 1 p2.length ANY), (8, sv 2 2 2), (9, accV 5 v28.length), (10, iv v26), (11, iv 0), (31, iv p0), (32, iv v26), (35, sv 2 2 2), (36, iv 2), (37, iv 1)]) [ab 86 e86 p1, ab 50 e50 p2, cl 102 [.bool false, .func (.func 57) ⟨[pt 3 0]⟩ ⟨[]⟩, iv 1, .bool true, .func (.func 57) ⟨[pt 3 0]⟩ ⟨[]⟩, iv 0], cl 126 [iv p0, sv 0 p1.length ANY, .map (some 4)], mb 50 u50 u50 r55.2, ab 3 e3 v28, .dead, .dead, .dead] (TI.dn ?_))
      have hF := Option.some.inj hF
      subst hF
      exact TS.weak (by exact (Wk.an [2, 3, 4, 5] (.ac (.ac (.lt (.fl (.cons (Rn.func' (.pp .nil) .nil) (.fl (.fl (.cons (Rn.func' (.pp .nil) .nil) (.fl .nil)))))) (.lt (.fl (.sl (.cons (Rn.map _ (Nat.le_of_ble_eq_true rfl)) .nil))) (.cons (At.blk (by kernel_rfl) (RnB.map _ _)) (.ac (.nil _))))))) [sv 1 p2.length ANY, sv 2 2 2, accV 5 v28.length, iv v26, iv 0, iv p0, iv v26, sv 2 2 2, iv 2, iv 1] (.sl (.sl (.cons (Rn.acc (Nat.le_of_ble_eq_true rfl) rfl) (.fl (.fl (.fl (.fl (.sl (.fl (.fl .nil)))))))))))) hK
    replace hF := of_neg hF hc63
    refine TS.sk ?_
    have hF := Option.some.inj hF
    subst hF
    exact TS.weak (by exact (Wk.an [2, 3, 4, 5] (.ac (.ac (.lt (.fl (.cons (Rn.func' (.pp .nil) .nil) (.fl (.fl (.cons (Rn.func' (.pp .nil) .nil) (.fl .nil)))))) (.lt (.fl (.sl (.cons (Rn.map _ (Nat.le_of_ble_eq_true rfl)) .nil))) (.cons (At.blk (by kernel_rfl) (RnB.map _ _)) (.ac (.nil _))))))) [sv 1 p2.length ANY, sv 2 2 2, accV 5 v28.length, iv v26, iv m53, iv p0, iv v26, sv 2 2 2, iv 2, iv 1] (.sl (.sl (.cons (Rn.acc (Nat.le_of_ble_eq_true rfl) rfl) (.fl (.fl (.fl (.fl (.sl (.fl (.fl .nil)))))))))))) hK
   clear hF
   have hF := hm54
   clear hm54
   refine TS.start ?_
   refine TS.cd (.tmp 52) (!r48.1) (fun hc64 => ?_) (fun hc64 => ?_)
   · replace hF := of_pos hF hc64
     refine TS.rg (TI.rn 3 [1, 8, 9, 10, 11, 31, 32, 35, 36, 37] [0, 1, 2, 3, 4, 5] (st 62 [(1, sv 1 p2.length ANY), (8, sv 2 2 2), (9, accV 5 v28.length), (10, iv v26), (11, iv 1), (31, iv p0), (32, iv v26), (35, sv 2 2 2), (36, iv 2), (37, iv 0)]) [ab 86 e86 p1, ab 50 e50 p2, cl 102 [.bool false, .func (.func 57) ⟨[pt 3 0]⟩ ⟨[]⟩, iv 1, .bool true, .func (.func 57) ⟨[pt 3 0]⟩ ⟨[]⟩, iv 0], cl 126 [iv p0, sv 0 p1.length ANY, .map (some 4)], mb 50 u50 u50 r48.2, ab 3 e3 v28, .dead, .dead, .dead] (TI.dn ?_))
     have hF := Option.some.inj hF
     subst hF
     exact TS.weak (by exact (Wk.an [2, 3, 4, 5] (.ac (.ac (.lt (.fl (.cons (Rn.func' (.pp .nil) .nil) (.fl (.fl (.cons (Rn.func' (.pp .nil) .nil) (.fl .nil)))))) (.lt (.fl (.sl (.cons (Rn.map _ (Nat.le_of_ble_eq_true rfl)) .nil))) (.cons (At.blk (by kernel_rfl) (RnB.map _ _)) (.ac (.nil _))))))) [sv 1 p2.length ANY, sv 2 2 2, accV 5 v28.length, iv v26, iv 1, iv p0, iv v26, sv 2 2 2, iv 2, iv 0] (.sl (.sl (.cons (Rn.acc (Nat.le_of_ble_eq_true rfl) rfl) (.fl (.fl (.fl (.fl (.sl (.fl (.fl .nil)))))))))))) hK
   replace hF := of_neg hF hc64
   refine TS.sk ?_
   have hF := Option.some.inj hF
   subst hF
   exact TS.weak (by exact (Wk.an [2, 3, 4, 5] (.ac (.ac (.lt (.fl (.cons (Rn.func' (.pp .nil) .nil) (.fl (.fl (.cons (Rn.func' (.pp .nil) .nil) (.fl .nil)))))) (.lt (.fl (.sl (.cons (Rn.map _ (Nat.le_of_ble_eq_true rfl)) .nil))) (.cons (At.blk (by kernel_rfl) (RnB.map _ _)) (.ac (.nil _))))))) [sv 1 p2.length ANY, sv 2 2 2, accV 5 v28.length, iv v26, iv 2, iv p0, iv v26, sv 2 2 2, iv 2, iv 0] (.sl (.sl (.cons (Rn.acc (Nat.le_of_ble_eq_true rfl) rfl) (.fl (.fl (.fl (.fl (.sl (.fl (.fl .nil)))))))))))) hK
 replace hF := of_neg hF hc46
 refine TS.ex 0 (NX.sqX ?_)
 have hF := Option.some.inj hF
 subst hF
 exact Rd.out (e := .exit 0) (by intro h; cases h) (And.intro rfl (Wk.an [5] (.ac (.ac (.ac (.nil _)))) [accV 5 v28.length] (.cons (Rn.acc (Nat.le_of_ble_eq_true rfl) rfl) .nil)))
theorem B20 (p0 : Int) (p1 : (List ((Int × Bool) × (Int × Bool)))) (p2 : (List (Int × Bool))) (r : ((List Int) × Int)) (hF : F20 p0 p1 p2 = some r) : TS Try.prog 2 2 c20 (st 62 [(0, ag [iv p0, sv 0 p1.length ANY]), (1, sv 1 p2.length ANY)]) (H20_14 p1 p2) (NX Try.prog 2 2 [] (FinP Try.prog Try.f20 2 (V20 2 r) (N20 2 r))) := by
 unfold F20 at hF
 refine TS.sq (TS.rg (TI.rn 3 [1, 2] [0, 1, 2] (st 62 [(1, sv 1 p2.length ANY), (2, pt 2 0)]) [ab 86 e86 p1, ab 50 e50 p2, cl 24 [iv p0, sv 0 p1.length ANY]] (TI.dn (NX.sq (TS.sq (TS.rg (TI.ra 2 [1, 2, 15, 16] (S20_10 p2 p0 p1) (TI.inline (g := 55) (args := [ag [iv p0, sv 0 p1.length ANY], sv 1 p2.length ANY]) (fn := Try.f55) (c := c20f55) (n := 3) (by kernel_rfl) (by kernel_rfl) (by kernel_rfl) (by kernel_rfl) (by kernel_rfl) [0, 1] (a2 := (st 40 [(0, ag [iv p0, sv 0 p1.length ANY]), (1, sv 1 p2.length ANY)])) (by kernel_rfl) ?_))))))))
 refine TS.sq (TS.rg (TI.rn 3 [1, 2] [0, 1, 2, 3] (st 40 [(1, sv 1 p2.length ANY), (2, pt 3 0)]) [ab 86 e86 p1, ab 50 e50 p2, cl 24 [iv p0, sv 0 p1.length ANY], cl 24 [iv p0, sv 0 p1.length ANY]] (TI.dn (NX.sq (TS.sq ?_)))))
 have hX := of_do hF
 clear hF
 obtain ⟨r1, h2, hF⟩ := hX
 refine TS.rg (TI.ra 1 [1, 2, 10] (st 40 [(1, sv 1 p2.length ANY), (2, pt 3 0), (10, ag [iv p0, sv 0 p1.length ANY])]) (TI.cp 26 [ag [iv p0, sv 0 p1.length ANY]] (iv r1) [] (PureSim.ren (hc := [ab 86 e86 p1]) (fun i => List.getD [(0, 0)] i (0, 0)) (C26 _ _ _ h2) (.ac (.nil _)) (.cons (Rn.agg' (.fl (.cons (Rn.any _ _ _ _ _ _ (Nat.le_of_ble_eq_true rfl) rfl rfl (by decide)) .nil))) .nil) (.flat (by kernel_rfl)) newflat_nil) (TI.ra 1 [1, 2, 6] (st 40 [(1, sv 1 p2.length ANY), (2, pt 3 0), (6, iv r1)]) (TI.dn (NX.sq (TS.sq (TS.bk 0 (TS.sq ?_))))))))
 refine TS.rg (TI.ra 3 [1, 2, 6, 12] (st 40 [(1, sv 1 p2.length ANY), (2, pt 3 0), (6, iv r1), (12, .bool (r1 != 0))]) (TI.dn (NX.sq ?_)))
 refine TS.cd (.tmp 12) (r1 != 0) (fun hc3 => ?_) (fun hc3 => ?_)
 · replace hF := of_pos hF hc3
   refine TS.sq (TS.rg (TI.rn 3 [4, 5] [0, 1, 2] (st 40 [(4, .pointer none), (5, iv r1)]) (H20_12 p1 p2 p0) (TI.dn (NX.sq (TS.rt (NX.bkR (NX.sqR ?_)))))))
   refine ⟨.inr rfl, rfl, .tuple ⟨[.pointer none, iv r1]⟩, .tuple ⟨[.pointer none, iv r1]⟩, (H20_12 p1 p2 p0), by kernel_rfl, WkV.refl, (TI.rn 0 [1, 2, 17] [0, 1, 2] (st 62 [(1, sv 1 p2.length ANY), (2, pt 2 0), (17, .tuple ⟨[.pointer none, iv r1]⟩)]) (H20_12 p1 p2 p0) (TI.ra 5 [1, 2, 6, 7] (st 62 [(1, sv 1 p2.length ANY), (2, pt 2 0), (6, .pointer none), (7, iv r1)]) (TI.dn (NX.sq (TS.sq (TS.sq (TS.rg (TI.ra 1 [1, 2, 6, 7, 20] (st 62 [(1, sv 1 p2.length ANY), (2, pt 2 0), (6, .pointer none), (7, iv r1), (20, iv r1)]) ?_))))))))⟩
   refine TI.o { val := .bool true } (q_conv (e := r1 != 0) (b := true) (by kernel_rfl) hc3) [1, 2, 6, 7, 21] [0, 1, 2] (st 62 [(1, sv 1 p2.length ANY), (2, pt 2 0), (6, .pointer none), (7, iv r1), (21, .bool true)]) (H20_12 p1 p2 p0) (TI.dn (NX.sq (TS.cdT (.tmp 21) (TS.sq (TS.rg (TI.rn 3 [4, 5] [0, 1] (st 62 [(4, .slice none 0 0), (5, iv r1)]) (H20_13 p1 p2) (TI.dn (NX.sq ?_))))))))
   refine TS.rt (NX.sqR ?_)
   have hF := Option.some.inj hF
   subst hF
   exact ⟨.inr rfl, rfl, .tuple ⟨[.slice none 0 0, iv r1]⟩, by kernel_rfl, WkV.made (L := 2) (f := [4]) (by decide) (by decide) rfl (.cons At.accN (.nil _)) (Rn.tuple' (.cons Rn.accN (.fl .nil)))⟩
 replace hF := of_neg hF hc3
 refine TS.sq (TS.rg (TI.ra 4 [1, 2, 16] (st 40 [(1, sv 1 p2.length ANY), (2, pt 3 0), (16, .bool (decide ((p2.length : Int) > 24)))]) (TI.dn (NX.sq ?_))))
 refine TS.cd (.tmp 16) (decide ((p2.length : Int) > 24)) (fun hc4 => ?_) (fun hc4 => ?_)
 · replace hF := of_pos hF hc4
   refine TS.sq (TS.rg (TI.rn 2 [4, 5] [0, 1, 2] (st 40 [(4, .pointer none), (5, iv 3)]) (H20_12 p1 p2 p0) (TI.dn (NX.sq (TS.rt (NX.bkR (NX.sqR ?_)))))))
   refine ⟨.inr rfl, rfl, .tuple ⟨[.pointer none, iv 3]⟩, .tuple ⟨[.pointer none, iv 3]⟩, (H20_12 p1 p2 p0), by kernel_rfl, WkV.refl, (TI.rn 0 [1, 2, 17] [0, 1, 2] (st 62 [(1, sv 1 p2.length ANY), (2, pt 2 0), (17, .tuple ⟨[.pointer none, iv 3]⟩)]) (H20_12 p1 p2 p0) (TI.ra 5 [1, 2, 6, 7] (st 62 [(1, sv 1 p2.length ANY), (2, pt 2 0), (6, .pointer none), (7, iv 3)]) (TI.dn (NX.sq (TS.sq (TS.sq (TS.rg (TI.ra 2 [1, 2, 6, 7, 21] (st 62 [(1, sv 1 p2.length ANY), (2, pt 2 0), (6, .pointer none), (7, iv 3), (21, .bool true)]) ?_))))))))⟩
   refine TI.dn (NX.sq (TS.cdT (.tmp 21) (TS.sq (TS.rg (TI.rn 3 [4, 5] [0, 1] (st 62 [(4, .slice none 0 0), (5, iv 3)]) (H20_13 p1 p2) (TI.dn (NX.sq (TS.rt ?_))))))))
   refine NX.sqR ?_
   have hF := Option.some.inj hF
   subst hF
   exact ⟨.inr rfl, rfl, .tuple ⟨[.slice none 0 0, iv 3]⟩, by kernel_rfl, WkV.made (L := 2) (f := [4]) (by decide) (by decide) rfl (.cons At.accN (.nil _)) (Rn.tuple' (.cons Rn.accN (.fl .nil)))⟩
 replace hF := of_neg hF hc4
 refine TS.sq ?_
 have hX := of_do hF
 clear hF
 obtain ⟨r5, h6, hF⟩ := hX
 refine TS.rg (TI.ra 2 [1, 2, 21, 22] (st 40 [(1, sv 1 p2.length ANY), (2, pt 3 0), (21, ag [iv p0, sv 0 p1.length ANY]), (22, sv 1 p2.length ANY)]) (TI.cp 64 [ag [iv p0, sv 0 p1.length ANY], sv 1 p2.length ANY] (.bool r5) [] (PureSim.ren (hc := (H20_14 p1 p2)) (fun i => List.getD [(0, 0), (1, 0)] i (0, 0)) (C64 _ _ _ _ h6) (.ac (.ac (.nil _))) (.cons (Rn.agg' (.fl (.cons (Rn.any _ _ _ _ _ _ (Nat.le_of_ble_eq_true rfl) rfl rfl (by decide)) .nil))) (.cons (Rn.any _ _ _ _ _ _ (Nat.le_of_ble_eq_true rfl) rfl rfl (by decide)) .nil)) (.flat (by kernel_rfl)) newflat_nil) (TI.ra 2 [1, 2, 20] (st 40 [(1, sv 1 p2.length ANY), (2, pt 3 0), (20, .bool (!r5))]) (TI.dn (NX.sq ?_)))))
 refine TS.cd (.tmp 20) (!r5) (fun hc7 => ?_) (fun hc7 => ?_)
 · replace hF := of_pos hF hc7
   refine TS.sq (TS.rg (TI.rn 2 [4, 5] [0, 1, 2] (st 40 [(4, .pointer none), (5, iv 6)]) (H20_12 p1 p2 p0) (TI.dn (NX.sq (TS.rt (NX.bkR (NX.sqR ?_)))))))
   refine ⟨.inr rfl, rfl, .tuple ⟨[.pointer none, iv 6]⟩, .tuple ⟨[.pointer none, iv 6]⟩, (H20_12 p1 p2 p0), by kernel_rfl, WkV.refl, (TI.rn 0 [1, 2, 17] [0, 1, 2] (st 62 [(1, sv 1 p2.length ANY), (2, pt 2 0), (17, .tuple ⟨[.pointer none, iv 6]⟩)]) (H20_12 p1 p2 p0) (TI.ra 5 [1, 2, 6, 7] (st 62 [(1, sv 1 p2.length ANY), (2, pt 2 0), (6, .pointer none), (7, iv 6)]) (TI.dn (NX.sq (TS.sq (TS.sq (TS.rg (TI.ra 2 [1, 2, 6, 7, 21] (st 62 [(1, sv 1 p2.length ANY), (2, pt 2 0), (6, .pointer none), (7, iv 6), (21, .bool true)]) ?_))))))))⟩
   refine TI.dn (NX.sq (TS.cdT (.tmp 21) (TS.sq (TS.rg (TI.rn 3 [4, 5] [0, 1] (st 62 [(4, .slice none 0 0), (5, iv 6)]) (H20_13 p1 p2) (TI.dn (NX.sq (TS.rt ?_))))))))
   refine NX.sqR ?_
   have hF := Option.some.inj hF
   subst hF
   exact ⟨.inr rfl, rfl, .tuple ⟨[.slice none 0 0, iv 6]⟩, by kernel_rfl, WkV.made (L := 2) (f := [4]) (by decide) (by decide) rfl (.cons At.accN (.nil _)) (Rn.tuple' (.cons Rn.accN (.fl .nil)))⟩
 replace hF := of_neg hF hc7
 refine TS.sk (NX.bk (NX.sq (TS.sq (TS.rg (TI.rn 1 [1, 25] [0, 1, 2] (st 40 [(1, sv 1 p2.length ANY), (25, ag [iv p0, sv 0 p1.length ANY])]) (H20_12 p1 p2 p0) (TI.inline (g := 66) (args := [ag [iv p0, sv 0 p1.length ANY]]) (fn := Try.f66) (c := c20f66) (n := 4) (by kernel_rfl) (by kernel_rfl) (by kernel_rfl) (by kernel_rfl) (by kernel_rfl) [0] (a2 := (st 7 [(0, ag [iv p0, sv 0 p1.length ANY])])) (by kernel_rfl) (TS.sq (TS.rg ?_))))))))
 refine TI.rn 2 [1] [0, 1, 2, 4] (st 7 [(1, pt 4 0)]) [ab 86 e86 p1, ab 50 e50 p2, cl 24 [iv p0, sv 0 p1.length ANY], .dead, cl 24 [iv p0, sv 0 p1.length ANY]] (TI.dn (NX.sq (TS.sq (TS.rg (TI.rn 5 [2] [0, 1, 2, 5, 6] (st 7 [(2, pt 6 0)]) (H20_7 p1 p2 p0) (TI.dn (NX.sq (TS.rt ?_))))))))
 refine ⟨.inr rfl, rfl, pt 6 0, pt 6 0, (H20_7 p1 p2 p0), by kernel_rfl, WkV.refl, (TI.rn 0 [1, 26] [0, 1, 2, 5, 6] (st 40 [(1, sv 1 p2.length ANY), (26, pt 6 0)]) (H20_7 p1 p2 p0) (TI.ra 1 [1, 7] (st 40 [(1, sv 1 p2.length ANY), (7, pt 6 0)]) (TI.dn (NX.sq (TS.sq (TS.sq ?_))))))⟩
 have hX := of_do hF
 clear hF
 obtain ⟨r8, h9, hF⟩ := hX
 refine TS.rg (TI.ra 1 [1, 7, 28] (st 40 [(1, sv 1 p2.length ANY), (7, pt 6 0), (28, pt 6 0)]) (TI.icallM (g := 75) (args := [pt 6 0]) (v := .tuple ⟨[ag [iv r8.1.1, .bool r8.1.2], .bool r8.2.1]⟩) (by kernel_rfl) (ImpSim.frameB (n := 3) (h := (H20_7 p1 p2 p0)) (ro := [cl 126 [iv p0, sv 1 p1.length ANY, .map (some 2)], ab 86 e86 p1]) (wr := [.map 50 (List.map (mEnc u50 u50) ([] : (List ((Int × Bool) × (Int × Bool)))))]) (wr' := [mb 50 u50 u50 r8.2.2]) (fun i => List.getD [(6, 0), (0, 0), (5, 0)] i (0, 0)) (C75 1 _ _ _ _ h9) rfl rfl (.cons (At.blk (b1 := cl 126 [iv p0, sv 0 p1.length ANY, .map (some 5)]) (by kernel_rfl) (RnB.lit (.fl (.cons (Rn.any _ _ _ _ _ _ (Nat.le_of_ble_eq_true rfl) rfl rfl (by decide)) (.cons (Rn.map _ (Nat.le_of_ble_eq_true rfl)) .nil))))) (.ac (.cons (At.blk (by kernel_rfl) (RnB.map _ _)) (.nil _)))) (by kernel_rfl) (by kernel_rfl) (by kernel_rfl) (.pp .nil) (by kernel_rfl)) [1, 7, 29] [0, 1, 2, 5, 6] (a2 := (st 40 [(1, sv 1 p2.length ANY), (7, pt 6 0), (29, .tuple ⟨[ag [iv r8.1.1, .bool r8.1.2], .bool r8.2.1]⟩)])) (h2 := [ab 86 e86 p1, ab 50 e50 p2, cl 24 [iv p0, sv 0 p1.length ANY], .dead, .dead, mb 50 u50 u50 r8.2.2, cl 126 [iv p0, sv 0 p1.length ANY, .map (some 5)]]) (by kernel_rfl) (TI.rn 6 [1, 7, 9] [0, 1, 2, 5, 6] (st 40 [(1, sv 1 p2.length ANY), (7, pt 6 0), (9, .bool r8.2.1)]) (H20_8 p1 p2 p0 r8) (TI.dn (NX.sq (TS.sq ?_))))))
 have hX := of_do hF
 clear hF
 obtain ⟨m13, hm67, hF⟩ := hX
 have hK : NX Try.prog 2 3 [.sq c20f55.s2.s2.s2.s2.s1.s2.s2, .sq c20f55.s2.s2.s2.s2.s2] (InlP Try.prog 2 3 Try.f55 (fun v2 h2 => TI Try.prog 2 2 c20.s2.s1.rops 3 (putAt c20.s2.s1.rops 2 (S20_10 p2 p0 p1) v2) h2 (NX Try.prog 2 2 [.sq c20.s2.s2] (FinP Try.prog Try.f20 2 (V20 2 r) (N20 2 r)) .normal))) .normal (st 40 [(7, pt 6 0), (38, .bool m13.1)]) (H20_9 p1 p2 p0 m13) := by
  refine NX.sq ?_
  refine TS.cd (.tmp 38) m13.1 (fun hc14 => ?_) (fun hc14 => ?_)
  · replace hF := of_pos hF hc14
    refine TS.sq (TS.rg (TI.rn 2 [4, 5] [0, 1, 2] (st 40 [(4, .pointer none), (5, iv 13)]) (H20_11 p1 p2 p0) (TI.dn (NX.sq (TS.rt (NX.sqR ?_))))))
    refine ⟨.inr rfl, rfl, .tuple ⟨[.pointer none, iv 13]⟩, .tuple ⟨[.pointer none, iv 13]⟩, (H20_11 p1 p2 p0), by kernel_rfl, WkV.refl, (TI.rn 0 [1, 2, 17] [0, 1, 2] (st 62 [(1, sv 1 p2.length ANY), (2, pt 2 0), (17, .tuple ⟨[.pointer none, iv 13]⟩)]) (H20_11 p1 p2 p0) (TI.ra 5 [1, 2, 6, 7] (st 62 [(1, sv 1 p2.length ANY), (2, pt 2 0), (6, .pointer none), (7, iv 13)]) (TI.dn (NX.sq (TS.sq (TS.sq (TS.rg (TI.ra 2 [1, 2, 6, 7, 21] (st 62 [(1, sv 1 p2.length ANY), (2, pt 2 0), (6, .pointer none), (7, iv 13), (21, .bool true)]) ?_))))))))⟩
    refine TI.dn (NX.sq (TS.cdT (.tmp 21) (TS.sq (TS.rg (TI.rn 3 [4, 5] [0, 1] (st 62 [(4, .slice none 0 0), (5, iv 13)]) [ab 86 e86 p1, ab 50 e50 p2, .dead, .dead, .dead, .dead, .dead, .dead] (TI.dn (NX.sq (TS.rt ?_))))))))
    refine NX.sqR ?_
    have hF := Option.some.inj hF
    subst hF
    exact ⟨.inr rfl, rfl, .tuple ⟨[.slice none 0 0, iv 13]⟩, by kernel_rfl, WkV.made (L := 2) (f := [8]) (by decide) (by decide) rfl (.cons At.accN (.nil _)) (Rn.tuple' (.cons Rn.accN (.fl .nil)))⟩
  replace hF := of_neg hF hc14
  refine TS.sk (NX.sq (TS.sq (TS.rg (TI.ra 3 [4, 5] (st 40 [(4, pt 6 0), (5, iv 0)]) (TI.dn (NX.sq (TS.rt ?_)))))))
  refine ⟨.inr rfl, rfl, .tuple ⟨[pt 6 0, iv 0]⟩, .tuple ⟨[pt 6 0, iv 0]⟩, (H20_9 p1 p2 p0 m13), by kernel_rfl, WkV.refl, (TI.rn 0 [1, 2, 17] [0, 1, 2, 5, 6] (st 62 [(1, sv 1 p2.length ANY), (2, pt 2 0), (17, .tuple ⟨[pt 6 0, iv 0]⟩)]) (H20_9 p1 p2 p0 m13) (TI.ra 5 [1, 2, 6, 7] (st 62 [(1, sv 1 p2.length ANY), (2, pt 2 0), (6, pt 6 0), (7, iv 0)]) (TI.dn (NX.sq (TS.sq (TS.sq (TS.rg (TI.ra 2 [1, 2, 6, 7, 21] (st 62 [(1, sv 1 p2.length ANY), (2, pt 2 0), (6, pt 6 0), (7, iv 0), (21, .bool false)]) ?_))))))))⟩
  refine TI.dn (NX.sq (TS.cdF (.tmp 21) (TS.sk (NX.sq (TS.sq (TS.rg (TI.rn 8 [1, 2, 8] [0, 1, 2, 5, 6, 8] (st 62 [(1, sv 1 p2.length ANY), (2, pt 2 0), (8, sv 8 2 2)]) [ab 86 e86 p1, ab 50 e50 p2, cl 24 [iv p0, sv 0 p1.length ANY], .dead, .dead, mb 50 u50 u50 m13.2, cl 126 [iv p0, sv 0 p1.length ANY, .map (some 5)], .dead, cl 102 [.bool false, .func (.func 57) ⟨[pt 6 0]⟩ ⟨[]⟩, iv 1, .bool true, .func (.func 57) ⟨[pt 6 0]⟩ ⟨[]⟩, iv 0]] (TI.dn ?_))))))))
  refine NX.sq (TS.sq (TS.rg (TI.ra 1 [1, 2, 8, 9] (st 62 [(1, sv 1 p2.length ANY), (2, pt 2 0), (8, sv 8 2 2), (9, .slice none 0 0)]) (TI.dn (NX.sq (TS.sq (TS.sq (TS.rg ?_))))))))
  refine TI.rn 3 [1, 8, 9, 31, 32] [0, 1, 5, 6, 8] (st 62 [(1, sv 1 p2.length ANY), (8, sv 8 2 2), (9, .slice none 0 0), (31, iv p0), (32, iv 0)]) [ab 86 e86 p1, ab 50 e50 p2, .dead, .dead, .dead, mb 50 u50 u50 m13.2, cl 126 [iv p0, sv 0 p1.length ANY, .map (some 5)], .dead, cl 102 [.bool false, .func (.func 57) ⟨[pt 6 0]⟩ ⟨[]⟩, iv 1, .bool true, .func (.func 57) ⟨[pt 6 0]⟩ ⟨[]⟩, iv 0]] (TI.dn (NX.sq (TS.bk 0 ?_)))
  have hX := of_do hF
  clear hF
  obtain ⟨r65, h66, hF⟩ := hX
  refine TS.lp (TL.weak (a2 := (st 62 [(1, sv 1 p2.length ANY), (8, sv 2 2 2), (9, accV 5 (List.length ([]))), (31, iv p0), (32, iv 0)])) (h2 := [ab 86 e86 p1, ab 50 e50 p2, cl 102 [.bool false, .func (.func 57) ⟨[pt 3 0]⟩ ⟨[]⟩, iv 1, .bool true, .func (.func 57) ⟨[pt 3 0]⟩ ⟨[]⟩, iv 0], cl 126 [iv p0, sv 0 p1.length ANY, .map (some 4)], mb 50 u50 u50 m13.2, accB 3 (List.length ([])) (List.flatMap e3 ([]))]) (Wk.an [8, 6, 5, 9] (.ac (.ac (.lt (.fl (.cons (Rn.func' (.pp .nil) .nil) (.fl (.fl (.cons (Rn.func' (.pp .nil) .nil) (.fl .nil)))))) (.lt (.fl (.sl (.cons (Rn.map _ (Nat.le_of_ble_eq_true rfl)) .nil))) (.cons (At.blk (by kernel_rfl) (RnB.map _ _)) (.cons At.accN (.nil _))))))) [sv 1 p2.length ANY, sv 8 2 2, .slice none 0 0, iv p0, iv 0] (.sl (.sl (.cons (Rn.accN) (.fl (.fl .nil)))))) (TL.post (L20l0 p0 p1 p2 ([]) 0 m13.2 r65 h66) ?_))
  rintro e a1 h1 hp
  obtain ⟨rfl, hw⟩ := hp
  refine ⟨(st 62 [(9, accV 2 r65.length)]), [ab 86 e86 p1, ab 50 e50 p2, ab 3 e3 r65], (NX.bkX (NX.sq (TS.sq (TS.rg (TI.ra 3 [4, 5] (st 62 [(4, accV 2 r65.length), (5, iv 0)]) (TI.dn (NX.sq (TS.rt ?_)))))))), hw⟩
  have hF := Option.some.inj hF
  subst hF
  exact ⟨.inr rfl, rfl, .tuple ⟨[accV 2 r65.length, iv 0]⟩, by kernel_rfl, WkV.made (L := 2) (f := [2]) (by decide) (by decide) rfl (.ac (.nil _)) (Rn.tuple' (.cons (Rn.acc (Nat.le_of_ble_eq_true rfl) rfl) (.fl .nil)))⟩
 rcases Bool.eq_false_or_eq_true (r8.2.1) with hc10 | hc10
 · replace hm67 := of_pos hm67 hc10
   have hm67 := Option.some.inj hm67
   subst hm67
   exact TS.rg (TI.o { val := .bool true } (q_conv (e := r8.2.1) (b := true) (by kernel_rfl) hc10) [1, 7, 32] [0, 1, 2, 5, 6] (st 40 [(1, sv 1 p2.length ANY), (7, pt 6 0), (32, .bool true)]) (H20_8 p1 p2 p0 r8) (TI.ra 6 [7, 38] (st 40 [(7, pt 6 0), (38, .bool true)]) (TI.dn hK)))
 replace hm67 := of_neg hm67 hc10
 have hX := of_do hm67
 clear hm67
 obtain ⟨r11, h12, hm67⟩ := hX
 have hm67 := Option.some.inj hm67
 subst hm67
 exact TS.rg (TI.o { val := .bool false } (q_conv (e := r8.2.1) (b := false) (by kernel_rfl) hc10) [1, 7, 32] [0, 1, 2, 5, 6] (st 40 [(1, sv 1 p2.length ANY), (7, pt 6 0), (32, .bool false)]) (H20_8 p1 p2 p0 r8) (TI.ra 3 [7, 33, 34, 35] (st 40 [(7, pt 6 0), (33, .bool false), (34, pt 6 0), (35, sv 1 p2.length ANY)]) (TI.icallM (g := 57) (args := [pt 6 0, sv 1 p2.length ANY]) (v := .bool r11.1) (by kernel_rfl) (ImpSim.frameB (n := 4) (h := (H20_8 p1 p2 p0 r8)) (ro := [cl 126 [iv p0, sv 1 p1.length ANY, .map (some 3)], ab 86 e86 p1, ab 50 e50 p2]) (wr := [mb 50 u50 u50 r8.2.2]) (wr' := [mb 50 u50 u50 r11.2]) (fun i => List.getD [(6, 0), (0, 0), (1, 0), (5, 0)] i (0, 0)) (C57 1 _ _ _ _ _ h12) rfl rfl (.cons (At.blk (b1 := cl 126 [iv p0, sv 0 p1.length ANY, .map (some 5)]) (by kernel_rfl) (RnB.lit (.fl (.cons (Rn.any _ _ _ _ _ _ (Nat.le_of_ble_eq_true rfl) rfl rfl (by decide)) (.cons (Rn.map _ (Nat.le_of_ble_eq_true rfl)) .nil))))) (.ac (.ac (.cons (At.blk (by kernel_rfl) (RnB.map _ _)) (.nil _))))) (by kernel_rfl) (by kernel_rfl) (by kernel_rfl) (.pp (.cons (Rn.any _ _ _ _ _ _ (Nat.le_of_ble_eq_true rfl) rfl rfl (by decide)) .nil)) (by kernel_rfl)) [7, 33, 36] [0, 1, 2, 5, 6] (a2 := (st 40 [(7, pt 6 0), (33, .bool false), (36, .bool r11.1)])) (h2 := [ab 86 e86 p1, ab 50 e50 p2, cl 24 [iv p0, sv 0 p1.length ANY], .dead, .dead, mb 50 u50 u50 r11.2, cl 126 [iv p0, sv 0 p1.length ANY, .map (some 5)], .dead]) (by kernel_rfl) (TI.ra 2 [7, 38] (st 40 [(7, pt 6 0), (38, .bool (!r11.1))]) (TI.dn hK)))))
theorem C20 (p0 : Int) (p1 : (List ((Int × Bool) × (Int × Bool)))) (p2 : (List (Int × Bool))) (r : ((List Int) × Int)) (hF : F20 p0 p1 p2 = some r) : PureSim Try.prog 20 [ag [iv p0, sv 0 p1.length ANY], sv 1 p2.length ANY] (H20_14 p1 p2) (V20 2 r) (N20 2 r) :=
 PureSim.of_Fin Try.func20 (c := c20) (by kernel_rfl) (by kernel_rfl) 2 rfl [0, 1] [0, 1] (by kernel_rfl) (B20 p0 p1 p2 r hF)
end
end Go.Proofs.Ytiaippkjgmccoaa
