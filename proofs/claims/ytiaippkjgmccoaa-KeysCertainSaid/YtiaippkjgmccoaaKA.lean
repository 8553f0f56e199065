/- What functions of the program compute, and that they do. -/
import Derived.Test.YtiaippkjgmccoaaTsZ
import Derived.Test.YtiaippkjgmccoaaProg
import Derived.KernelRfl
import Derived.Test.YtiaippkjgmccoaaCL
set_option linter.unusedVariables false
set_option linter.unusedSimpArgs false
set_option maxRecDepth 100000
set_option maxHeartbeats 4000000
namespace Go.Proofs.Ytiaippkjgmccoaa
open Go Go.Cl
noncomputable section
def e86 (x : ((Int × Bool) × (Int × Bool))) : List Value := [.int .i64 x.1.1, .bool x.1.2, .int .i64 x.2.1, .bool x.2.2]
def u50 (x : (Int × Bool)) : Value := .agg ⟨e50 x⟩
theorem u50_flat (x : (Int × Bool)) : flat1 (u50 x) = true := by kernel_rfl
theorem u50_fit (x : (Int × Bool)) : keyFits Try.prog 50 (u50 x) = true := by kernel_rfl
theorem u50_eq (a b : (Int × Bool)) : eqKey (u50 a) (u50 b) = decide (a = b) := by rw [Bool.eq_iff_iff]; simp [u50, e50, eqKey, eqLeaves, eqLeaf, Prod.ext_iff]
noncomputable def c68 : Code := Try.f68.code
def S68_0 (p2 : (List ((Int × Bool) × (Int × Bool)))) (p3 : Int) (p4 : Bool) (o1 : (Int × Bool)) : CAct := (st 17 [(0, pt 0 0), (3, pt 3 0), (5, pt 4 0), (6, .bool (Option.isSome (mget p2 (p3, p4)))), (7, .tuple ⟨[ag [iv o1.1, .bool o1.2], .bool (Option.isSome (mget p2 (p3, p4)))]⟩), (8, pt 0 0), (9, pt 0 0), (10, pt 0 2), (11, .map (some 2)), (12, ag [iv p3, .bool p4]), (13, .tuple ⟨[ag [iv o1.1, .bool o1.2], .bool (Option.isSome (mget p2 (p3, p4)))]⟩), (14, ag [iv o1.1, .bool o1.2]), (15, .bool (Option.isSome (mget p2 (p3, p4))))])
def S68_1 (o1 : (Int × Bool)) (p2 : (List ((Int × Bool) × (Int × Bool)))) (p3 : Int) (p4 : Bool) : CAct := (st 17 [(0, pt 0 0), (3, pt 3 0), (5, pt 4 0), (7, .tuple ⟨[ag [iv o1.1, .bool o1.2], .bool (Option.isSome (mget p2 (p3, p4)))]⟩), (8, pt 0 0), (9, pt 0 0), (10, pt 0 2), (11, .map (some 2)), (12, ag [iv p3, .bool p4]), (13, .tuple ⟨[ag [iv o1.1, .bool o1.2], .bool (Option.isSome (mget p2 (p3, p4)))]⟩), (14, ag [iv o1.1, .bool o1.2]), (15, .bool (Option.isSome (mget p2 (p3, p4))))])
def H68_2 (p0 : Int) (p1 : (List ((Int × Bool) × (Int × Bool)))) (p2 : (List ((Int × Bool) × (Int × Bool)))) (p3 : Int) (p4 : Bool) (o1 : (Int × Bool)) : List Blk := [cl 126 [iv p0, sv 1 p1.length ANY, .map (some 2)], ab 86 e86 p1, mb 50 u50 u50 p2, cl 50 [iv p3, .bool p4], cl 50 [iv o1.1, .bool o1.2]]
def S68_3 (p3 : Int) (p4 : Bool) (o1 : (Int × Bool)) (p2 : (List ((Int × Bool) × (Int × Bool)))) : CAct := (st 17 [(0, pt 0 0), (3, pt 3 0), (8, pt 0 0), (9, pt 0 0), (10, pt 0 2), (11, .map (some 2)), (12, ag [iv p3, .bool p4]), (13, .tuple ⟨[ag [iv o1.1, .bool o1.2], .bool (Option.isSome (mget p2 (p3, p4)))]⟩)])
def H68_4 (p0 : Int) (p1 : (List ((Int × Bool) × (Int × Bool)))) (p2 : (List ((Int × Bool) × (Int × Bool)))) (p3 : Int) (p4 : Bool) : List Blk := [cl 126 [iv p0, sv 1 p1.length ANY, .map (some 2)], ab 86 e86 p1, mb 50 u50 u50 p2, cl 50 [iv p3, .bool p4]]
def S68_5 (p3 : Int) (p4 : Bool) : CAct := (st 17 [(0, pt 0 0), (3, pt 3 0), (8, pt 0 0), (9, pt 0 0), (10, pt 0 2), (11, .map (some 2)), (12, ag [iv p3, .bool p4])])
def F68 (p0 : Int) (p1 : (List ((Int × Bool) × (Int × Bool)))) (p2 : (List ((Int × Bool) × (Int × Bool)))) (p3 : Int) (p4 : Bool) : Option Bool :=
 some (Option.getD (mget p2 (p3, p4)) (0, false)) >>= fun o1 =>
 some (Option.isSome (mget p2 (p3, p4)))
def V68 (b : Nat) (r : Bool) : Value := .bool r
def N68 (b : Nat) (r : Bool) : List Blk := []
theorem B68 (p0 : Int) (p1 : (List ((Int × Bool) × (Int × Bool)))) (p2 : (List ((Int × Bool) × (Int × Bool)))) (p3 : Int) (p4 : Bool) (r : Bool) (hF : F68 p0 p1 p2 p3 p4 = some r) : TS Try.prog 3 3 c68 (st 17 [(0, pt 0 0), (1, ag [iv p3, .bool p4])]) [cl 126 [iv p0, sv 1 p1.length ANY, .map (some 2)], ab 86 e86 p1, mb 50 u50 u50 p2] (NX Try.prog 3 3 [] (FinP Try.prog Try.f68 3 (V68 3 r) (N68 3 r))) := by
 unfold F68 at hF
 refine TS.sq (TS.rg (TI.rn 2 [0, 3] [0, 1, 2, 3] (st 17 [(0, pt 0 0), (3, pt 3 0)]) (H68_4 p0 p1 p2 p3 p4) (TI.dn (NX.sq (TS.sq ?_)))))
 have hX := of_do hF
 clear hF
 obtain ⟨o1, h2, hF⟩ := hX
 replace h2 := Option.some.inj h2
 refine TS.draw' (id := 1) (b := true) (ops := c68.s2.s1.rops) (fin := (qs (S68_1 o1 p2 p3 p4) (H68_2 p0 p1 p2 p3 p4 o1) [(9, 4, 5)] [(10, 4)])) (fin2 := (qs (S68_1 o1 p2 p3 p4) (H68_2 p0 p1 p2 p3 p4 o1) [(9, 4, 5)] [(10, 4)])) (a1 := (S68_0 p2 p3 p4 o1)) (h1 := (H68_2 p0 p1 p2 p3 p4 o1)) (a2 := (st 17 [(6, .bool (Option.isSome (mget p2 (p3, p4))))])) (h2 := [cl 126 [iv p0, sv 1 p1.length ANY, .map (some 2)], ab 86 e86 p1, mb 50 u50 u50 p2, .dead, .dead]) [] (fun e he => by cases he) mixed (by kernel_rfl) rfl 11 (by kernel_rfl) [(10, 4)] ?_ rfl (.inr ⟨?_, (by kernel_rfl)⟩) ?_ [6] [0, 1, 2] (by kernel_rfl) ?_
 · exact QI.run (s1 := (qs (S68_5 p3 p4) (H68_4 p0 p1 p2 p3 p4) [] [])) 5 (by kernel_rfl) (by kernel_rfl) (QI.op (q := { val := .tuple ⟨[ag [iv o1.1, .bool o1.2], .bool (Option.isSome (mget p2 (p3, p4)))]⟩ }) (s1 := (qs (S68_3 p3 p4 o1 p2) (H68_4 p0 p1 p2 p3 p4) [] [])) (by decide) (q_eqv (q_get2 (P := Try.prog) (hp := (H68_4 p0 p1 p2 p3 p4)) (r := 2) (l := p2) (k := (p3, p4)) (kt := 50) (et := 50) (kv := u50) (vv := u50) (key := ag [iv p3, .bool p4]) (t := 124) (by kernel_rfl) rfl (by kernel_rfl) (by kernel_rfl) (by kernel_rfl) u50_fit u50_eq (0, false) (by kernel_rfl) (by kernel_rfl)) (congrArg (fun (z : (Int × Bool)) => ({ val := .tuple ⟨[ag [iv z.1, .bool z.2], .bool (Option.isSome (mget p2 (p3, p4)))]⟩ } : QRes)) h2)) (by kernel_rfl) (QI.run (s1 := (qs (S68_1 o1 p2 p3 p4) (H68_2 p0 p1 p2 p3 p4 o1) [(9, 4, 5)] [(10, 4)])) 5 (by kernel_rfl) (by kernel_rfl) (QI.done (by kernel_rfl))))
 · exact QI.run (s1 := (qs (S68_5 p3 p4) (H68_4 p0 p1 p2 p3 p4) [] [])) 5 (by kernel_rfl) (by kernel_rfl) (QI.op (q := { val := .tuple ⟨[ag [iv o1.1, .bool o1.2], .bool (Option.isSome (mget p2 (p3, p4)))]⟩ }) (s1 := (qs (S68_3 p3 p4 o1 p2) (H68_4 p0 p1 p2 p3 p4) [] [])) (by decide) (q_eqv (q_get2 (P := Try.prog) (hp := (H68_4 p0 p1 p2 p3 p4)) (r := 2) (l := p2) (k := (p3, p4)) (kt := 50) (et := 50) (kv := u50) (vv := u50) (key := ag [iv p3, .bool p4]) (t := 124) (by kernel_rfl) rfl (by kernel_rfl) (by kernel_rfl) (by kernel_rfl) u50_fit u50_eq (0, false) (by kernel_rfl) (by kernel_rfl)) (congrArg (fun (z : (Int × Bool)) => ({ val := .tuple ⟨[ag [iv z.1, .bool z.2], .bool (Option.isSome (mget p2 (p3, p4)))]⟩ } : QRes)) h2)) (by kernel_rfl) (QI.run (s1 := (qs (S68_1 o1 p2 p3 p4) (H68_2 p0 p1 p2 p3 p4 o1) [(9, 4, 5)] [(10, 4)])) 5 (by kernel_rfl) (by kernel_rfl) (QI.done (by kernel_rfl))))
 · exact SI.run (a2 := (S68_0 p2 p3 p4 o1)) (h2 := (H68_2 p0 p1 p2 p3 p4 o1)) 1 (by kernel_rfl) (SI.done (by kernel_rfl))
 refine TS.sq (TS.rg (TI.ra 2 [4] (st 17 [(4, .bool (Option.isSome (mget p2 (p3, p4))))]) (TI.dn (NX.sq (TS.rt ?_)))))
 have hF := Option.some.inj hF
 subst hF
 exact ⟨.inr rfl, rfl, .bool (Option.isSome (mget p2 (p3, p4))), by kernel_rfl, WkV.flat0 (by kernel_rfl) (Nat.le_of_ble_eq_true rfl)⟩
theorem C68 (p0 : Int) (p1 : (List ((Int × Bool) × (Int × Bool)))) (p2 : (List ((Int × Bool) × (Int × Bool)))) (p3 : Int) (p4 : Bool) (r : Bool) (hF : F68 p0 p1 p2 p3 p4 = some r) : PureSim Try.prog 68 [pt 0 0, ag [iv p3, .bool p4]] [cl 126 [iv p0, sv 1 p1.length ANY, .map (some 2)], ab 86 e86 p1, mb 50 u50 u50 p2] (V68 3 r) (N68 3 r) :=
 PureSim.of_Fin Try.func68 (c := c68) (by kernel_rfl) (by kernel_rfl) 3 rfl [0, 1] [0, 1, 2] (by kernel_rfl) (B68 p0 p1 p2 p3 p4 r hF)
noncomputable def c72 : Code := Try.f72.code
def F72 (p0 : Int) (p1 : Bool) : Option (Int × Bool) :=
 some (p0, !p1)
def V72 (b : Nat) (r : (Int × Bool)) : Value := ag [iv r.1, .bool r.2]
def N72 (b : Nat) (r : (Int × Bool)) : List Blk := []
theorem B72 (p0 : Int) (p1 : Bool) (r : (Int × Bool)) (hF : F72 p0 p1 = some r) : TS Try.prog 0 0 c72 (st 9 [(0, ag [iv p0, .bool p1])]) [] (NX Try.prog 0 0 [] (FinP Try.prog Try.f72 0 (V72 0 r) (N72 0 r))) := by
 unfold F72 at hF
 refine TS.sq (TS.rg (TI.rn 2 [1, 2] [0, 1] (st 9 [(1, pt 0 0), (2, pt 1 0)]) [cl 50 [iv p0, .bool p1], cl 50 [iv 0, .bool false]] (TI.dn (NX.sq (TS.sq (TS.rg (TI.rn 7 [2] [1] (st 9 [(2, pt 1 0)]) [.dead, cl 50 [iv p0, .bool (!p1)]] (TI.dn ?_))))))))
 refine NX.sq (TS.rt ?_)
 have hF := Option.some.inj hF
 subst hF
 exact ⟨.inr rfl, rfl, ag [iv p0, .bool (!p1)], by kernel_rfl, WkV.flat0 (by kernel_rfl) (Nat.le_of_ble_eq_true rfl)⟩
theorem C72 (p0 : Int) (p1 : Bool) (r : (Int × Bool)) (hF : F72 p0 p1 = some r) : PureSim Try.prog 72 [ag [iv p0, .bool p1]] [] (V72 0 r) (N72 0 r) :=
 PureSim.of_Fin Try.func72 (c := c72) (by kernel_rfl) (by kernel_rfl) 0 rfl [0] [] (by kernel_rfl) (B72 p0 p1 r hF)
noncomputable def c67 : Code := Try.f67.code
def S67_0 (v240 : Nat) (v239 : (List (Int × Bool))) (v242 : (List ((Int × Bool) × (Int × Bool)))) (o283 : (Int × Bool)) (p1 : (List ((Int × Bool) × (Int × Bool)))) (v241 : Int) (o285 : (Int × Bool)) : CAct := (st 86 [(0, pt 0 0), (4, zq 2 4 v240 v239), (7, pt 5 0), (10, pt 6 0), (11, pt 7 0), (12, .bool (Option.isSome (mget v242 (o283.1, o283.2)))), (44, sv 1 p1.length ANY), (45, iv (p1.length : Int)), (46, iv v241), (64, .tuple ⟨[ag [iv o285.1, .bool o285.2], .bool (Option.isSome (mget v242 (o283.1, o283.2)))]⟩), (65, pt 0 0), (66, pt 0 0), (67, pt 0 2), (68, .map (some 3)), (69, ag [iv o283.1, .bool o283.2]), (70, .tuple ⟨[ag [iv o285.1, .bool o285.2], .bool (Option.isSome (mget v242 (o283.1, o283.2)))]⟩), (71, ag [iv o285.1, .bool o285.2]), (72, .bool (Option.isSome (mget v242 (o283.1, o283.2))))])
def S67_1 (v240 : Nat) (v239 : (List (Int × Bool))) (p1 : (List ((Int × Bool) × (Int × Bool)))) (v241 : Int) (o285 : (Int × Bool)) (v242 : (List ((Int × Bool) × (Int × Bool)))) (o283 : (Int × Bool)) : CAct := (st 86 [(0, pt 0 0), (4, zq 2 4 v240 v239), (7, pt 5 0), (10, pt 6 0), (11, pt 7 0), (44, sv 1 p1.length ANY), (45, iv (p1.length : Int)), (46, iv v241), (64, .tuple ⟨[ag [iv o285.1, .bool o285.2], .bool (Option.isSome (mget v242 (o283.1, o283.2)))]⟩), (65, pt 0 0), (66, pt 0 0), (67, pt 0 2), (68, .map (some 3)), (69, ag [iv o283.1, .bool o283.2]), (70, .tuple ⟨[ag [iv o285.1, .bool o285.2], .bool (Option.isSome (mget v242 (o283.1, o283.2)))]⟩), (71, ag [iv o285.1, .bool o285.2]), (72, .bool (Option.isSome (mget v242 (o283.1, o283.2))))])
def H67_2 (p0 : Int) (p1 : (List ((Int × Bool) × (Int × Bool)))) (p3 : (List (Int × Bool))) (v242 : (List ((Int × Bool) × (Int × Bool)))) (v239 : (List (Int × Bool))) (o215 : (Int × Bool)) (o269 : ((Int × Bool) × (Int × Bool))) : List Blk := [cl 126 [iv p0, sv 1 p1.length ANY, .map (some 3)], ab 86 e86 p1, ab 50 e50 p3, mb 50 u50 u50 v242, ab 50 e50 v239, cl 50 [iv o215.1, .bool o215.2], cl 86 [iv o269.1.1, .bool o269.1.2, iv o269.2.1, .bool o269.2.2], cl 50 [iv 0, .bool false]]
def S67_3 (v240 : Nat) (v239 : (List (Int × Bool))) (p1 : (List ((Int × Bool) × (Int × Bool)))) (v241 : Int) (o283 : (Int × Bool)) (o285 : (Int × Bool)) (v242 : (List ((Int × Bool) × (Int × Bool)))) : CAct := (st 86 [(0, pt 0 0), (4, zq 2 4 v240 v239), (7, pt 5 0), (10, pt 6 0), (44, sv 1 p1.length ANY), (45, iv (p1.length : Int)), (46, iv v241), (65, pt 0 0), (66, pt 0 0), (67, pt 0 2), (68, .map (some 3)), (69, ag [iv o283.1, .bool o283.2]), (70, .tuple ⟨[ag [iv o285.1, .bool o285.2], .bool (Option.isSome (mget v242 (o283.1, o283.2)))]⟩)])
def H67_4 (p0 : Int) (p1 : (List ((Int × Bool) × (Int × Bool)))) (p3 : (List (Int × Bool))) (v242 : (List ((Int × Bool) × (Int × Bool)))) (v239 : (List (Int × Bool))) (o215 : (Int × Bool)) (o283 : (Int × Bool)) (o285 : (Int × Bool)) : List Blk := [cl 126 [iv p0, sv 1 p1.length ANY, .map (some 3)], ab 86 e86 p1, ab 50 e50 p3, mb 50 u50 u50 v242, ab 50 e50 v239, cl 50 [iv o215.1, .bool o215.2], cl 50 [iv o283.1, .bool o283.2], cl 50 [iv o285.1, .bool o285.2]]
def H67_5 (p0 : Int) (p1 : (List ((Int × Bool) × (Int × Bool)))) (p3 : (List (Int × Bool))) (v242 : (List ((Int × Bool) × (Int × Bool)))) (v239 : (List (Int × Bool))) (o215 : (Int × Bool)) (o283 : (Int × Bool)) : List Blk := [cl 126 [iv p0, sv 1 p1.length ANY, .map (some 3)], ab 86 e86 p1, ab 50 e50 p3, mb 50 u50 u50 v242, ab 50 e50 v239, cl 50 [iv o215.1, .bool o215.2], cl 50 [iv o283.1, .bool o283.2], .dead]
def H67_6 (p0 : Int) (p1 : (List ((Int × Bool) × (Int × Bool)))) (p3 : (List (Int × Bool))) (v242 : (List ((Int × Bool) × (Int × Bool)))) (v239 : (List (Int × Bool))) (o215 : (Int × Bool)) (o283 : (Int × Bool)) : List Blk := [cl 126 [iv p0, sv 1 p1.length ANY, .map (some 3)], ab 86 e86 p1, ab 50 e50 p3, mb 50 u50 u50 v242, ab 50 e50 v239, cl 50 [iv o215.1, .bool o215.2], cl 50 [iv o283.1, .bool o283.2]]
def H67_7 (p0 : Int) (p1 : (List ((Int × Bool) × (Int × Bool)))) (p3 : (List (Int × Bool))) (v8 : (List ((Int × Bool) × (Int × Bool)))) (o17 : (Int × Bool)) (r1 : (List (Int × Bool))) : List Blk := [cl 126 [iv p0, sv 1 p1.length ANY, .map (some 3)], ab 86 e86 p1, ab 50 e50 p3, .map 50 (List.map (mEnc u50 u50) (mput v8 (o17.1, o17.2) (o17.1, o17.2))), ab 50 e50 r1, cl 50 [iv o17.1, .bool o17.2]]
def H67_8 (p0 : Int) (p1 : (List ((Int × Bool) × (Int × Bool)))) (p3 : (List (Int × Bool))) (m297 : (Nat × (List (Int × Bool)) × (List ((Int × Bool) × (Int × Bool))))) (o215 : (Int × Bool)) : List Blk := [cl 126 [iv p0, sv 1 p1.length ANY, .map (some 3)], ab 86 e86 p1, ab 50 e50 p3, mb 50 u50 u50 m297.2.2, ab 50 e50 m297.2.1, cl 50 [iv o215.1, .bool o215.2]]
def H67_9 (p0 : Int) (p1 : (List ((Int × Bool) × (Int × Bool)))) (p3 : (List (Int × Bool))) (r1 : (List (Int × Bool))) : List Blk := [cl 126 [iv p0, sv 1 p1.length ANY, .map (some 3)], ab 86 e86 p1, ab 50 e50 p3, .map 50 (List.map (mEnc u50 u50) ([] : (List ((Int × Bool) × (Int × Bool))))), ab 50 e50 r1]
def H67_10 (p0 : Int) (p1 : (List ((Int × Bool) × (Int × Bool)))) (p3 : (List (Int × Bool))) (v242 : (List ((Int × Bool) × (Int × Bool)))) (v239 : (List (Int × Bool))) (o215 : (Int × Bool)) : List Blk := [cl 126 [iv p0, sv 1 p1.length ANY, .map (some 3)], ab 86 e86 p1, ab 50 e50 p3, mb 50 u50 u50 v242, ab 50 e50 v239, cl 50 [iv o215.1, .bool o215.2]]
def H67_11 (p0 : Int) (p1 : (List ((Int × Bool) × (Int × Bool)))) (p3 : (List (Int × Bool))) (v116 : (List ((Int × Bool) × (Int × Bool)))) (v114 : (List (Int × Bool))) (o215 : (Int × Bool)) : List Blk := [cl 126 [iv p0, sv 1 p1.length ANY, .map (some 3)], ab 86 e86 p1, ab 50 e50 p3, mb 50 u50 u50 v116, ab 50 e50 v114, cl 50 [iv o215.1, .bool o215.2]]
def H67_12 (p0 : Int) (p1 : (List ((Int × Bool) × (Int × Bool)))) (p3 : (List (Int × Bool))) (v8 : (List ((Int × Bool) × (Int × Bool)))) (r1 : (List (Int × Bool))) (o17 : (Int × Bool)) : List Blk := [cl 126 [iv p0, sv 1 p1.length ANY, .map (some 3)], ab 86 e86 p1, ab 50 e50 p3, mb 50 u50 u50 v8, ab 50 e50 r1, cl 50 [iv o17.1, .bool o17.2]]
def S67_13 (r1 : (List (Int × Bool))) (p3 : (List (Int × Bool))) (v7 : Int) (o17 : (Int × Bool)) : CAct := (st 86 [(0, pt 0 0), (4, zq 2 4 0 r1), (6, pt 5 0), (19, sv 2 p3.length ANY), (20, iv (p3.length : Int)), (21, iv v7), (25, pt 0 0), (26, pt 0 0), (27, pt 0 2), (28, .map (some 3)), (29, ag [iv o17.1, .bool o17.2]), (30, ag [iv o17.1, .bool o17.2])])
def H67_14 (p0 : Int) (p1 : (List ((Int × Bool) × (Int × Bool)))) (p3 : (List (Int × Bool))) (r305 : (Nat × (List (Int × Bool)) × (List ((Int × Bool) × (Int × Bool))))) : List Blk := [cl 126 [iv p0, sv 1 p1.length ANY, .map (some 3)], ab 86 e86 p1, ab 50 e50 p3, mb 50 u50 u50 r305.2.2, ab 50 e50 r305.2.1]
def S67_15 (v240 : Nat) (v239 : (List (Int × Bool))) (p1 : (List ((Int × Bool) × (Int × Bool)))) (v241 : Int) (o283 : (Int × Bool)) : CAct := (st 86 [(0, pt 0 0), (4, zq 2 4 v240 v239), (7, pt 5 0), (10, pt 6 0), (44, sv 1 p1.length ANY), (45, iv (p1.length : Int)), (46, iv v241), (65, pt 0 0), (66, pt 0 0), (67, pt 0 2), (68, .map (some 3)), (69, ag [iv o283.1, .bool o283.2])])
def H67_16 (p0 : Int) (p1 : (List ((Int × Bool) × (Int × Bool)))) (p3 : (List (Int × Bool))) (v116 : (List ((Int × Bool) × (Int × Bool)))) (v114 : (List (Int × Bool))) : List Blk := [cl 126 [iv p0, sv 1 p1.length ANY, .map (some 3)], ab 86 e86 p1, ab 50 e50 p3, mb 50 u50 u50 v116, ab 50 e50 v114]
def H67_17 (p0 : Int) (p1 : (List ((Int × Bool) × (Int × Bool)))) (p3 : (List (Int × Bool))) (v8 : (List ((Int × Bool) × (Int × Bool)))) (r1 : (List (Int × Bool))) : List Blk := [cl 126 [iv p0, sv 1 p1.length ANY, .map (some 3)], ab 86 e86 p1, ab 50 e50 p3, mb 50 u50 u50 v8, ab 50 e50 r1]
def H67_18 (p0 : Int) (p1 : (List ((Int × Bool) × (Int × Bool)))) (p3 : (List (Int × Bool))) : List Blk := [cl 126 [iv p0, sv 1 p1.length ANY, .map (some 3)], ab 86 e86 p1, ab 50 e50 p3]
def S67_19 (v240 : Nat) (v239 : (List (Int × Bool))) (p1 : (List ((Int × Bool) × (Int × Bool)))) (v241 : Int) : CAct := (st 86 [(0, pt 0 0), (4, zq 2 4 v240 v239), (7, pt 5 0), (44, sv 1 p1.length ANY), (45, iv (p1.length : Int)), (46, iv v241)])
def F67l0 (p0 : Int) (p1 : (List ((Int × Bool) × (Int × Bool)))) (p3 : (List (Int × Bool))) (r1 : (List (Int × Bool))) (v7 : Int) (v8 : (List ((Int × Bool) × (Int × Bool)))) : Option (List ((Int × Bool) × (Int × Bool))) :=
 if decide (v7 < (p3.length : Int)) then
  if (0 : Int) ≤ v7 ∧ v7 < (p3.length : Int) then
   some (List.getD p3 (Int.toNat v7) (0, false)) >>= fun o17 =>
   F67l0 p0 p1 p3 r1 (w64 (v7 + 1)) (mput v8 (o17.1, o17.2) (o17.1, o17.2))
  else none
 else
  some v8
 partial_fixpoint
def F67l2 (p0 : Int) (p1 : (List ((Int × Bool) × (Int × Bool)))) (p3 : (List (Int × Bool))) (o215 : (Int × Bool)) (v240 : Nat) (v241 : Int) (v242 : (List ((Int × Bool) × (Int × Bool)))) (v239 : (List (Int × Bool))) : Option (Nat × (List (Int × Bool)) × (List ((Int × Bool) × (Int × Bool)))) :=
 if decide (v241 < (p1.length : Int)) then
  if (0 : Int) ≤ v241 ∧ v241 < (p1.length : Int) then
   some (List.getD p1 (Int.toNat v241) ((0, false), (0, false))) >>= fun o269 =>
   F72 o215.1 o215.2 >>= fun r271 =>
   (
    if ((r271.1 == o269.1.1) && ((r271.2 == o269.1.2) && true)) then
     some (.inr (o269.2.1, o269.2.2))
    else
     if ((r271.1 == o269.2.1) && ((r271.2 == o269.2.2) && true)) then
      some (.inr (o269.1.1, o269.1.2))
     else
      some (.inl ())
   : Option (Unit ⊕ (Int × Bool))) >>= fun m275 =>
   match m275 with
   | .inl o277 =>
    F67l2 p0 p1 p3 o215 v240 (w64 (v241 + 1)) v242 v239
   | .inr o283 =>
    some (Option.getD (mget v242 (o283.1, o283.2)) (0, false)) >>= fun o285 =>
    (
     if !(Option.isSome (mget v242 (o283.1, o283.2))) then
      if v240 ≤ List.length v239 then
       if v240 ≤ 1000000000 then
        if List.length (List.drop v240 v239) ≤ 1000000000 then
         some (0, List.drop v240 v239 ++ [(o283.1, o283.2)], mput v242 (o283.1, o283.2) (o215.1, o215.2))
        else none
       else none
      else none
     else
      some (v240, v239, v242)
    : Option (Nat × (List (Int × Bool)) × (List ((Int × Bool) × (Int × Bool))))) >>= fun m297 =>
    F67l2 p0 p1 p3 o215 m297.1 (w64 (v241 + 1)) m297.2.2 m297.2.1
  else none
 else
  some (v240, v239, v242)
 partial_fixpoint
def F67l1 (p0 : Int) (p1 : (List ((Int × Bool) × (Int × Bool)))) (p3 : (List (Int × Bool))) (v115 : Nat) (v116 : (List ((Int × Bool) × (Int × Bool)))) (v114 : (List (Int × Bool))) : Option (List ((Int × Bool) × (Int × Bool))) :=
 if decide ((List.length (List.drop v115 v114) : Int) > 0) then
  if (0 : Int) ≤ 0 ∧ 0 < (List.length (List.drop v115 v114) : Int) then
   some (List.getD (List.drop v115 v114) (Int.toNat 0) (0, false)) >>= fun o215 =>
   if (0 : Int) ≤ 1 ∧ 1 ≤ (List.length (List.drop v115 v114) : Int) then
    if v115 ≤ 1000000000 then
     F67l2 p0 p1 p3 o215 (v115 + Int.toNat 1) 0 v116 v114 >>= fun r305 =>
     F67l1 p0 p1 p3 r305.1 r305.2.2 r305.2.1
    else none
   else none
  else none
 else
  some v116
 partial_fixpoint
def F67b (rec67 : Int → (List ((Int × Bool) × (Int × Bool))) → (List ((Int × Bool) × (Int × Bool))) → (List (Int × Bool)) → Option (List ((Int × Bool) × (Int × Bool)))) (p0 : Int) (p1 : (List ((Int × Bool) × (Int × Bool)))) (p2 : (List ((Int × Bool) × (Int × Bool)))) (p3 : (List (Int × Bool))) : Option (List ((Int × Bool) × (Int × Bool))) :=
 F56 p3 >>= fun r1 =>
 F67l0 p0 p1 p3 r1 0 ([] : (List ((Int × Bool) × (Int × Bool)))) >>= fun r19 =>
 F67l1 p0 p1 p3 0 r19 r1 >>= fun r307 =>
 some (r307)
def F67 : Nat → Int → (List ((Int × Bool) × (Int × Bool))) → (List ((Int × Bool) × (Int × Bool))) → (List (Int × Bool)) → Option (List ((Int × Bool) × (Int × Bool)))
 | 0 => fun _ _ _ _ => none
 | k + 1 => F67b (F67 k)
def P67l0 (p0 : Int) (p1 : (List ((Int × Bool) × (Int × Bool)))) (p3 : (List (Int × Bool))) (r1 : (List (Int × Bool))) (r : (List ((Int × Bool) × (Int × Bool)))) : Post := fun e a h => e = .exit 0 ∧ Wk Try.prog 3 4 a h (st 86 [(0, pt 0 0), (4, zq 2 4 0 r1)]) [cl 126 [iv p0, sv 1 p1.length ANY, .map (some 3)], ab 86 e86 p1, ab 50 e50 p3, mb 50 u50 u50 r, ab 50 e50 r1]
theorem L67l0 (p0 : Int) (p1 : (List ((Int × Bool) × (Int × Bool)))) (p3 : (List (Int × Bool))) (r1 : (List (Int × Bool))) (v7 : Int) (v8 : (List ((Int × Bool) × (Int × Bool)))) (r : (List ((Int × Bool) × (Int × Bool)))) (hF : F67l0 p0 p1 p3 r1 v7 v8 = some r) : TL Try.prog 3 4 c67.s2.s2.s1.s2.bd.bd (st 86 [(0, pt 0 0), (4, zq 2 4 0 r1), (19, sv 2 p3.length ANY), (20, iv (p3.length : Int)), (21, iv v7)]) (H67_17 p0 p1 p3 v8 r1) (P67l0 p0 p1 p3 r1 r) := by
 refine F67l0.partial_correctness p0 p1 p3 r1 (motive := fun v7 v8 r => TL Try.prog 3 4 c67.s2.s2.s1.s2.bd.bd (st 86 [(0, pt 0 0), (4, zq 2 4 0 r1), (19, sv 2 p3.length ANY), (20, iv (p3.length : Int)), (21, iv v7)]) (H67_17 p0 p1 p3 v8 r1) (P67l0 p0 p1 p3 r1 r)) ?_ v7 v8 r hF
 clear hF r v7 v8
 intro again ih v7 v8 r hF
 refine TL.round (TS.sq (TS.rg (TI.ra 1 [0, 4, 19, 20, 21, 22] (st 86 [(0, pt 0 0), (4, zq 2 4 0 r1), (19, sv 2 p3.length ANY), (20, iv (p3.length : Int)), (21, iv v7), (22, .bool (decide (v7 < (p3.length : Int))))]) (TI.dn (NX.sq (TS.sq ?_))))))
 refine TS.cd (.tmp 22) (decide (v7 < (p3.length : Int))) (fun hc15 => ?_) (fun hc15 => ?_)
 · replace hF := of_pos hF hc15
   refine TS.sk (NX.sq (TS.sq (TS.bk 1 (TS.sq ?_))))
   have hX := of_guard hF
   clear hF
   obtain ⟨hg16, hF⟩ := hX
   have hX := of_do hF
   clear hF
   obtain ⟨o17, h18, hF⟩ := hX
   replace h18 := Option.some.inj h18
   refine TS.rg (TI.o { val := .pointer (some ⟨2, 0 + (Int.toNat v7) * 2, none⟩) } (q_ixS 2 0 ((Int.toNat v7) * 2) (by kernel_rfl) hg16) [0, 4, 19, 20, 21, 23] [0, 1, 2, 3, 4] (st 86 [(0, pt 0 0), (4, zq 2 4 0 r1), (19, sv 2 p3.length ANY), (20, iv (p3.length : Int)), (21, iv v7), (23, .pointer (some ⟨2, 0 + (Int.toNat v7) * 2, none⟩))]) (H67_17 p0 p1 p3 v8 r1) (TI.o { val := ag [iv o17.1, .bool o17.2] } (q_nAa Try.prog (H67_17 p0 p1 p3 v8 r1) 50 2 (0 + (Int.toNat v7) * 2) p3 e50 2 50 (Int.toNat v7) (0, false) h18) [0, 4, 19, 20, 21, 24] [0, 1, 2, 3, 4] (st 86 [(0, pt 0 0), (4, zq 2 4 0 r1), (19, sv 2 p3.length ANY), (20, iv (p3.length : Int)), (21, iv v7), (24, ag [iv o17.1, .bool o17.2])]) (H67_17 p0 p1 p3 v8 r1) (TI.rn 2 [0, 4, 6, 19, 20, 21] [0, 1, 2, 3, 4, 5] (st 86 [(0, pt 0 0), (4, zq 2 4 0 r1), (6, pt 5 0), (19, sv 2 p3.length ANY), (20, iv (p3.length : Int)), (21, iv v7)]) (H67_12 p0 p1 p3 v8 r1 o17) (TI.dn (NX.sq ?_)))))
   refine TS.drawE (id := 5) (b := true) (ops := c67.s2.s2.s1.s2.bd.bd.s2.s2.s1.bd.s2.rops) (fin := (qs (S67_13 r1 p3 v7 o17) (H67_12 p0 p1 p3 v8 r1 o17) [] [])) (fin2 := (qs (S67_13 r1 p3 v7 o17) (H67_12 p0 p1 p3 v8 r1 o17) [] [])) (a1 := (S67_13 r1 p3 v7 o17)) (h1 := (H67_7 p0 p1 p3 v8 o17 r1)) [] (fun e he => by cases he) mixed (by kernel_rfl) rfl 6 (by kernel_rfl) [] ?_ rfl (.inl ⟨rfl, rfl⟩) ?_ ?_
   · exact QI.run (s1 := (qs (S67_13 r1 p3 v7 o17) (H67_12 p0 p1 p3 v8 r1 o17) [] [])) 6 (by kernel_rfl) (by kernel_rfl) (QI.done (by kernel_rfl))
   · exact SI.op (q := { val := undef, upd := some (3, .map 50 (List.map (mEnc u50 u50) (mput v8 (o17.1, o17.2) (o17.1, o17.2)))) }) (a2 := (S67_13 r1 p3 v7 o17)) (h2 := (H67_7 p0 p1 p3 v8 o17 r1)) (by kernel_rfl) (q_put (P := Try.prog) (hp := (H67_12 p0 p1 p3 v8 r1 o17)) (r := 3) (l := v8) (k := (o17.1, o17.2)) (kt := 50) (et := 50) (kv := u50) (vv := u50) (key := ag [iv o17.1, .bool o17.2]) (base := 3) (t := 124) (val := ag [iv o17.1, .bool o17.2]) (y := (o17.1, o17.2)) (by kernel_rfl) rfl rfl (by decide) (by kernel_rfl) (by kernel_rfl) (by kernel_rfl) u50_fit u50_eq u50_flat) (by kernel_rfl) (by kernel_rfl) (SI.done (by kernel_rfl))
   refine NX.bk (NX.sq (TS.rg (TI.rn 2 [0, 4, 19, 20, 21] [0, 1, 2, 3, 4] (st 86 [(0, pt 0 0), (4, zq 2 4 0 r1), (19, sv 2 p3.length ANY), (20, iv (p3.length : Int)), (21, iv (w64 (v7 + 1)))]) [cl 126 [iv p0, sv 1 p1.length ANY, .map (some 3)], ab 86 e86 p1, ab 50 e50 p3, .map 50 (List.map (mEnc u50 u50) (mput v8 (o17.1, o17.2) (o17.1, o17.2))), ab 50 e50 r1, .dead] (TI.dn ?_))))
   exact Rd.again (a2 := (st 86 [(0, pt 0 0), (4, zq 2 4 0 r1), (19, sv 2 p3.length ANY), (20, iv (p3.length : Int)), (21, iv (w64 (v7 + 1)))])) (h2 := [cl 126 [iv p0, sv 1 p1.length ANY, .map (some 3)], ab 86 e86 p1, ab 50 e50 p3, .map 50 (List.map (mEnc u50 u50) (mput v8 (o17.1, o17.2) (o17.1, o17.2))), ab 50 e50 r1]) (Wk.an [4] (.lt (.fl (.sl (.cons (Rn.map _ (Nat.le_of_ble_eq_true rfl)) .nil))) (.ac (.ac (.cons (At.blk (by kernel_rfl) (RnB.map _ _)) (.ac (.nil _)))))) [pt 0 0, zq 2 4 0 r1, sv 2 p3.length ANY, iv (p3.length : Int), iv (w64 (v7 + 1))] (.pp (.cons (Rn.zq (i' := 4) (Nat.le_of_ble_eq_true (by rfl)) (by rfl)) (.sl (.fl (.fl .nil)))))) (ih (w64 (v7 + 1)) (mput v8 (o17.1, o17.2) (o17.1, o17.2)) _ hF)
 replace hF := of_neg hF hc15
 refine TS.ex 0 (NX.sqX ?_)
 have hF := Option.some.inj hF
 subst hF
 exact Rd.out (e := .exit 0) (by intro h; cases h) (And.intro rfl (Wk.an [4] (.lt (.fl (.sl (.cons (Rn.map _ (Nat.le_of_ble_eq_true rfl)) .nil))) (.ac (.ac (.cons (At.blk (by kernel_rfl) (RnB.map _ _)) (.ac (.nil _)))))) [pt 0 0, zq 2 4 0 r1] (.pp (.cons (Rn.zq (i' := 4) (Nat.le_of_ble_eq_true (by rfl)) (by rfl)) .nil))))
def P67l2 (p0 : Int) (p1 : (List ((Int × Bool) × (Int × Bool)))) (p3 : (List (Int × Bool))) (o215 : (Int × Bool)) (r : (Nat × (List (Int × Bool)) × (List ((Int × Bool) × (Int × Bool))))) : Post := fun e a h => e = .exit 4 ∧ Wk Try.prog 3 4 a h (st 86 [(0, pt 0 0), (4, zq 2 4 r.1 r.2.1)]) [cl 126 [iv p0, sv 1 p1.length ANY, .map (some 3)], ab 86 e86 p1, ab 50 e50 p3, mb 50 u50 u50 r.2.2, ab 50 e50 r.2.1]
theorem L67l2 (p0 : Int) (p1 : (List ((Int × Bool) × (Int × Bool)))) (p3 : (List (Int × Bool))) (o215 : (Int × Bool)) (v240 : Nat) (v241 : Int) (v242 : (List ((Int × Bool) × (Int × Bool)))) (v239 : (List (Int × Bool))) (r : (Nat × (List (Int × Bool)) × (List ((Int × Bool) × (Int × Bool))))) (hF : F67l2 p0 p1 p3 o215 v240 v241 v242 v239 = some r) : TL Try.prog 3 4 c67.s2.s2.s2.bd.bd.s2.bd.bd.s2.s2.s2.s2.bd.bd (S67_19 v240 v239 p1 v241) (H67_10 p0 p1 p3 v242 v239 o215) (P67l2 p0 p1 p3 o215 r) := by
 refine F67l2.partial_correctness p0 p1 p3 o215 (motive := fun v240 v241 v242 v239 r => TL Try.prog 3 4 c67.s2.s2.s2.bd.bd.s2.bd.bd.s2.s2.s2.s2.bd.bd (S67_19 v240 v239 p1 v241) (H67_10 p0 p1 p3 v242 v239 o215) (P67l2 p0 p1 p3 o215 r)) ?_ v240 v241 v242 v239 r hF
 clear hF r v240 v241 v242 v239
 intro again ih v240 v241 v242 v239 r hF
 refine TL.round (TS.sq (TS.rg (TI.ra 1 [0, 4, 7, 44, 45, 46, 47] (st 86 [(0, pt 0 0), (4, zq 2 4 v240 v239), (7, pt 5 0), (44, sv 1 p1.length ANY), (45, iv (p1.length : Int)), (46, iv v241), (47, .bool (decide (v241 < (p1.length : Int))))]) (TI.dn (NX.sq (TS.sq ?_))))))
 refine TS.cd (.tmp 47) (decide (v241 < (p1.length : Int))) (fun hc267 => ?_) (fun hc267 => ?_)
 · replace hF := of_pos hF hc267
   refine TS.sk (NX.sq (TS.sq (TS.bk 5 (TS.sq ?_))))
   have hX := of_guard hF
   clear hF
   obtain ⟨hg268, hF⟩ := hX
   have hX := of_do hF
   clear hF
   obtain ⟨o269, h270, hF⟩ := hX
   replace h270 := Option.some.inj h270
   refine TS.rg (TI.o { val := .pointer (some ⟨1, 0 + (Int.toNat v241) * 4, none⟩) } (q_ixS 1 0 ((Int.toNat v241) * 4) (by kernel_rfl) hg268) [0, 4, 7, 44, 45, 46, 48] [0, 1, 2, 3, 4, 5] (st 86 [(0, pt 0 0), (4, zq 2 4 v240 v239), (7, pt 5 0), (44, sv 1 p1.length ANY), (45, iv (p1.length : Int)), (46, iv v241), (48, .pointer (some ⟨1, 0 + (Int.toNat v241) * 4, none⟩))]) (H67_10 p0 p1 p3 v242 v239 o215) (TI.o { val := ag [iv o269.1.1, .bool o269.1.2, iv o269.2.1, .bool o269.2.2] } (q_nAa Try.prog (H67_10 p0 p1 p3 v242 v239 o215) 86 1 (0 + (Int.toNat v241) * 4) p1 e86 4 86 (Int.toNat v241) ((0, false), (0, false)) h270) [0, 4, 7, 44, 45, 46, 49] [0, 1, 2, 3, 4, 5] (st 86 [(0, pt 0 0), (4, zq 2 4 v240 v239), (7, pt 5 0), (44, sv 1 p1.length ANY), (45, iv (p1.length : Int)), (46, iv v241), (49, ag [iv o269.1.1, .bool o269.1.2, iv o269.2.1, .bool o269.2.2])]) (H67_10 p0 p1 p3 v242 v239 o215) (TI.rn 2 [0, 4, 7, 9, 44, 45, 46] [0, 1, 2, 3, 4, 5, 6] (st 86 [(0, pt 0 0), (4, zq 2 4 v240 v239), (7, pt 5 0), (9, pt 6 0), (44, sv 1 p1.length ANY), (45, iv (p1.length : Int)), (46, iv v241)]) [cl 126 [iv p0, sv 1 p1.length ANY, .map (some 3)], ab 86 e86 p1, ab 50 e50 p3, mb 50 u50 u50 v242, ab 50 e50 v239, cl 50 [iv o215.1, .bool o215.2], cl 86 [iv o269.1.1, .bool o269.1.2, iv o269.2.1, .bool o269.2.2]] (TI.dn (NX.sq (TS.sq (TS.rg (TI.rn 1 [0, 4, 7, 9, 10, 44, 45, 46] [0, 1, 2, 3, 4, 5, 6, 7] (st 86 [(0, pt 0 0), (4, zq 2 4 v240 v239), (7, pt 5 0), (9, pt 6 0), (10, pt 7 0), (44, sv 1 p1.length ANY), (45, iv (p1.length : Int)), (46, iv v241)]) (H67_2 p0 p1 p3 v242 v239 o215 o269) ?_))))))))
   refine TI.dn (NX.sq (TS.sq (TS.sq ?_)))
   have hX := of_do hF
   clear hF
   obtain ⟨r271, h272, hF⟩ := hX
   refine TS.rg (TI.ra 1 [0, 4, 7, 9, 10, 44, 45, 46, 50] (st 86 [(0, pt 0 0), (4, zq 2 4 v240 v239), (7, pt 5 0), (9, pt 6 0), (10, pt 7 0), (44, sv 1 p1.length ANY), (45, iv (p1.length : Int)), (46, iv v241), (50, ag [iv o215.1, .bool o215.2])]) (TI.cm (PureSim.ak (C72 _ _ _ h272)) [0, 4, 7, 9, 10, 44, 45, 46, 51] [0, 1, 2, 3, 4, 5, 6, 7] (st 86 [(0, pt 0 0), (4, zq 2 4 v240 v239), (7, pt 5 0), (9, pt 6 0), (10, pt 7 0), (44, sv 1 p1.length ANY), (45, iv (p1.length : Int)), (46, iv v241), (51, ag [iv r271.1, .bool r271.2])]) (H67_2 p0 p1 p3 v242 v239 o215 o269) (TI.dn (NX.sq (TS.bk 6 (TS.sq (TS.rg (TI.ra 4 [0, 4, 7, 9, 10, 44, 45, 46, 51, 52] (st 86 [(0, pt 0 0), (4, zq 2 4 v240 v239), (7, pt 5 0), (9, pt 6 0), (10, pt 7 0), (44, sv 1 p1.length ANY), (45, iv (p1.length : Int)), (46, iv v241), (51, ag [iv r271.1, .bool r271.2]), (52, .bool ((r271.1 == o269.1.1) && ((r271.2 == o269.1.2) && true)))]) ?_))))))))
   refine TI.dn (NX.sq ?_)
   have hX := of_do hF
   clear hF
   obtain ⟨m275, hm276, hF⟩ := hX
   have hk278 : ∀ o277, m275 = .inl o277 → NX Try.prog 3 4 [.sq c67.s2.s2.s2.bd.bd.s2.bd.bd.s2.s2.s2.s2.bd.bd.s2.s2.s2] (Rd Try.prog 3 4 c67.s2.s2.s2.bd.bd.s2.bd.bd.s2.s2.s2.s2.bd.bd (P67l2 p0 p1 p3 o215 r)) .normal (S67_19 v240 v239 p1 v241) (H67_10 p0 p1 p3 v242 v239 o215) := by
    intro o277 hq
    subst hq
    refine NX.sq (TS.rg (TI.ra 2 [0, 4, 7, 44, 45, 46] (st 86 [(0, pt 0 0), (4, zq 2 4 v240 v239), (7, pt 5 0), (44, sv 1 p1.length ANY), (45, iv (p1.length : Int)), (46, iv (w64 (v241 + 1)))]) (TI.dn ?_)))
    exact Rd.again (a2 := (st 86 [(0, pt 0 0), (4, zq 2 4 v240 v239), (7, pt 5 0), (44, sv 1 p1.length ANY), (45, iv (p1.length : Int)), (46, iv (w64 (v241 + 1)))])) (h2 := (H67_10 p0 p1 p3 v242 v239 o215)) (Wk.an [4, 5] (.lt (.fl (.sl (.cons (Rn.map _ (Nat.le_of_ble_eq_true rfl)) .nil))) (.ac (.ac (.cons (At.blk (by kernel_rfl) (RnB.map _ _)) (.ac (.lt (.fl (.fl .nil)) (.nil _))))))) [pt 0 0, zq 2 4 v240 v239, pt 5 0, sv 1 p1.length ANY, iv (p1.length : Int), iv (w64 (v241 + 1))] (.pp (.cons (Rn.zq (i' := 4) (Nat.le_of_ble_eq_true (by rfl)) (by rfl)) (.pp (.sl (.fl (.fl .nil))))))) (ih v240 (w64 (v241 + 1)) v242 v239 _ hF)
   have hk284 : ∀ o283, m275 = .inr o283 → NX Try.prog 3 4 [.sq c67.s2.s2.s2.bd.bd.s2.bd.bd.s2.s2.s2.s2.bd.bd.s2.s2.s1.bd.s2.s2.s2, .bk 5, .sq c67.s2.s2.s2.bd.bd.s2.bd.bd.s2.s2.s2.s2.bd.bd.s2.s2.s2] (Rd Try.prog 3 4 c67.s2.s2.s2.bd.bd.s2.bd.bd.s2.s2.s2.s2.bd.bd (P67l2 p0 p1 p3 o215 r)) .normal (st 86 [(0, pt 0 0), (4, zq 2 4 v240 v239), (7, pt 5 0), (10, pt 6 0), (44, sv 1 p1.length ANY), (45, iv (p1.length : Int)), (46, iv v241)]) (H67_6 p0 p1 p3 v242 v239 o215 o283) := by
    intro o283 hq
    subst hq
    refine NX.sq (TS.sq ?_)
    have hX := of_do hF
    clear hF
    obtain ⟨o285, h286, hF⟩ := hX
    replace h286 := Option.some.inj h286
    refine TS.draw' (id := 19) (b := true) (ops := c67.s2.s2.s2.bd.bd.s2.bd.bd.s2.s2.s2.s2.bd.bd.s2.s2.s1.bd.s2.s2.s2.s1.rops) (fin := (qs (S67_1 v240 v239 p1 v241 o285 v242 o283) (H67_4 p0 p1 p3 v242 v239 o215 o283 o285) [(9, 7, 8)] [(10, 7)])) (fin2 := (qs (S67_1 v240 v239 p1 v241 o285 v242 o283) (H67_4 p0 p1 p3 v242 v239 o215 o283 o285) [(9, 7, 8)] [(10, 7)])) (a1 := (S67_0 v240 v239 v242 o283 p1 v241 o285)) (h1 := (H67_4 p0 p1 p3 v242 v239 o215 o283 o285)) (a2 := (st 86 [(0, pt 0 0), (4, zq 2 4 v240 v239), (7, pt 5 0), (10, pt 6 0), (12, .bool (Option.isSome (mget v242 (o283.1, o283.2)))), (44, sv 1 p1.length ANY), (45, iv (p1.length : Int)), (46, iv v241)])) (h2 := (H67_5 p0 p1 p3 v242 v239 o215 o283)) [] (fun e he => by cases he) mixed (by kernel_rfl) rfl 11 (by kernel_rfl) [(10, 7)] ?_ rfl (.inr ⟨?_, (by kernel_rfl)⟩) ?_ [0, 4, 7, 10, 12, 44, 45, 46] [0, 1, 2, 3, 4, 5, 6] (by kernel_rfl) ?_
    · exact QI.run (s1 := (qs (S67_15 v240 v239 p1 v241 o283) (H67_6 p0 p1 p3 v242 v239 o215 o283) [] [])) 5 (by kernel_rfl) (by kernel_rfl) (QI.op (q := { val := .tuple ⟨[ag [iv o285.1, .bool o285.2], .bool (Option.isSome (mget v242 (o283.1, o283.2)))]⟩ }) (s1 := (qs (S67_3 v240 v239 p1 v241 o283 o285 v242) (H67_6 p0 p1 p3 v242 v239 o215 o283) [] [])) (by decide) (q_eqv (q_get2 (P := Try.prog) (hp := (H67_6 p0 p1 p3 v242 v239 o215 o283)) (r := 3) (l := v242) (k := (o283.1, o283.2)) (kt := 50) (et := 50) (kv := u50) (vv := u50) (key := ag [iv o283.1, .bool o283.2]) (t := 124) (by kernel_rfl) rfl (by kernel_rfl) (by kernel_rfl) (by kernel_rfl) u50_fit u50_eq (0, false) (by kernel_rfl) (by kernel_rfl)) (congrArg (fun (z : (Int × Bool)) => ({ val := .tuple ⟨[ag [iv z.1, .bool z.2], .bool (Option.isSome (mget v242 (o283.1, o283.2)))]⟩ } : QRes)) h286)) (by kernel_rfl) (QI.run (s1 := (qs (S67_1 v240 v239 p1 v241 o285 v242 o283) (H67_4 p0 p1 p3 v242 v239 o215 o283 o285) [(9, 7, 8)] [(10, 7)])) 5 (by kernel_rfl) (by kernel_rfl) (QI.done (by kernel_rfl))))
    · exact QI.run (s1 := (qs (S67_15 v240 v239 p1 v241 o283) (H67_6 p0 p1 p3 v242 v239 o215 o283) [] [])) 5 (by kernel_rfl) (by kernel_rfl) (QI.op (q := { val := .tuple ⟨[ag [iv o285.1, .bool o285.2], .bool (Option.isSome (mget v242 (o283.1, o283.2)))]⟩ }) (s1 := (qs (S67_3 v240 v239 p1 v241 o283 o285 v242) (H67_6 p0 p1 p3 v242 v239 o215 o283) [] [])) (by decide) (q_eqv (q_get2 (P := Try.prog) (hp := (H67_6 p0 p1 p3 v242 v239 o215 o283)) (r := 3) (l := v242) (k := (o283.1, o283.2)) (kt := 50) (et := 50) (kv := u50) (vv := u50) (key := ag [iv o283.1, .bool o283.2]) (t := 124) (by kernel_rfl) rfl (by kernel_rfl) (by kernel_rfl) (by kernel_rfl) u50_fit u50_eq (0, false) (by kernel_rfl) (by kernel_rfl)) (congrArg (fun (z : (Int × Bool)) => ({ val := .tuple ⟨[ag [iv z.1, .bool z.2], .bool (Option.isSome (mget v242 (o283.1, o283.2)))]⟩ } : QRes)) h286)) (by kernel_rfl) (QI.run (s1 := (qs (S67_1 v240 v239 p1 v241 o285 v242 o283) (H67_4 p0 p1 p3 v242 v239 o215 o283 o285) [(9, 7, 8)] [(10, 7)])) 5 (by kernel_rfl) (by kernel_rfl) (QI.done (by kernel_rfl))))
    · exact SI.run (a2 := (S67_0 v240 v239 v242 o283 p1 v241 o285)) (h2 := (H67_4 p0 p1 p3 v242 v239 o215 o283 o285)) 1 (by kernel_rfl) (SI.done (by kernel_rfl))
    refine TS.sq (TS.rg (TI.ra 2 [0, 4, 7, 10, 44, 45, 46, 74] (st 86 [(0, pt 0 0), (4, zq 2 4 v240 v239), (7, pt 5 0), (10, pt 6 0), (44, sv 1 p1.length ANY), (45, iv (p1.length : Int)), (46, iv v241), (74, .bool (!(Option.isSome (mget v242 (o283.1, o283.2)))))]) (TI.dn (NX.sq ?_))))
    have hX := of_do hF
    clear hF
    obtain ⟨m297, hm298, hF⟩ := hX
    have hK : NX Try.prog 3 4 [.bk 5, .sq c67.s2.s2.s2.bd.bd.s2.bd.bd.s2.s2.s2.s2.bd.bd.s2.s2.s2] (Rd Try.prog 3 4 c67.s2.s2.s2.bd.bd.s2.bd.bd.s2.s2.s2.s2.bd.bd (P67l2 p0 p1 p3 o215 r)) .normal (st 86 [(0, pt 0 0), (4, zq 2 4 m297.1 m297.2.1), (7, pt 5 0), (44, sv 1 p1.length ANY), (45, iv (p1.length : Int)), (46, iv v241)]) (H67_8 p0 p1 p3 m297 o215) := by
     refine NX.bk (NX.sq (TS.rg (TI.ra 2 [0, 4, 7, 44, 45, 46] (st 86 [(0, pt 0 0), (4, zq 2 4 m297.1 m297.2.1), (7, pt 5 0), (44, sv 1 p1.length ANY), (45, iv (p1.length : Int)), (46, iv (w64 (v241 + 1)))]) (TI.dn ?_))))
     exact Rd.again (a2 := (st 86 [(0, pt 0 0), (4, zq 2 4 m297.1 m297.2.1), (7, pt 5 0), (44, sv 1 p1.length ANY), (45, iv (p1.length : Int)), (46, iv (w64 (v241 + 1)))])) (h2 := (H67_8 p0 p1 p3 m297 o215)) (Wk.an [4, 5] (.lt (.fl (.sl (.cons (Rn.map _ (Nat.le_of_ble_eq_true rfl)) .nil))) (.ac (.ac (.cons (At.blk (by kernel_rfl) (RnB.map _ _)) (.ac (.lt (.fl (.fl .nil)) (.nil _))))))) [pt 0 0, zq 2 4 m297.1 m297.2.1, pt 5 0, sv 1 p1.length ANY, iv (p1.length : Int), iv (w64 (v241 + 1))] (.pp (.cons (Rn.zq (i' := 4) (Nat.le_of_ble_eq_true (by rfl)) (by rfl)) (.pp (.sl (.fl (.fl .nil))))))) (ih m297.1 (w64 (v241 + 1)) m297.2.2 m297.2.1 _ hF)
    clear hF
    have hF := hm298
    clear hm298
    refine TS.start ?_
    refine TS.cd (.tmp 74) (!(Option.isSome (mget v242 (o283.1, o283.2)))) (fun hc299 => ?_) (fun hc299 => ?_)
    · replace hF := of_pos hF hc299
      refine TS.sq ?_
      refine TS.dp [] (fun e he => by cases he) mixed 6 [0, 4, 7, 10, 44, 45, 46] [0, 1, 2, 3, 4, 5, 6] (st 86 [(0, pt 0 0), (4, zq 2 4 v240 v239), (7, pt 5 0), (10, pt 6 0), (44, sv 1 p1.length ANY), (45, iv (p1.length : Int)), (46, iv v241)]) [cl 126 [iv p0, sv 1 p1.length ANY, .map (some 3)], ab 86 e86 p1, ab 50 e50 p3, .map 50 (List.map (mEnc u50 u50) (mput v242 (o283.1, o283.2) (o215.1, o215.2))), ab 50 e50 v239, cl 50 [iv o215.1, .bool o215.2], cl 50 [iv o283.1, .bool o283.2], .dead] ?_ ?_
      · exact QJ.rn (qs (st 86 [(0, pt 0 0), (4, zq 2 4 v240 v239), (7, pt 5 0), (10, pt 6 0), (44, sv 1 p1.length ANY), (45, iv (p1.length : Int)), (46, iv v241), (74, .bool (!(Option.isSome (mget v242 (o283.1, o283.2))))), (75, pt 0 0), (76, pt 0 0), (77, pt 0 2), (78, .map (some 3)), (79, ag [iv o283.1, .bool o283.2]), (80, ag [iv o215.1, .bool o215.2])]) (H67_5 p0 p1 p3 v242 v239 o215 o283) [] []) 6 (QJ.dn ⟨rfl, (SJ.o { val := undef, upd := some (3, .map 50 (List.map (mEnc u50 u50) (mput v242 (o283.1, o283.2) (o215.1, o215.2)))) } (q_put (P := Try.prog) (hp := (H67_5 p0 p1 p3 v242 v239 o215 o283)) (r := 3) (l := v242) (k := (o283.1, o283.2)) (kt := 50) (et := 50) (kv := u50) (vv := u50) (key := ag [iv o283.1, .bool o283.2]) (base := 3) (t := 124) (val := ag [iv o215.1, .bool o215.2]) (y := (o215.1, o215.2)) (by kernel_rfl) rfl rfl (by decide) (by kernel_rfl) (by kernel_rfl) (by kernel_rfl) u50_fit u50_eq u50_flat) SJ.dn)⟩)
      have hX := of_guard hF
      clear hF
      obtain ⟨hg300, hF⟩ := hX
      have hX := of_guard hF
      clear hF
      obtain ⟨hg301, hF⟩ := hX
      have hX := of_guard hF
      clear hF
      obtain ⟨hg302, hF⟩ := hX
      refine TS.rg (TI.rn 3 [0, 7, 44, 45, 46, 81, 83] [0, 1, 2, 3, 4, 5, 8] (st 86 [(0, pt 0 0), (7, pt 5 0), (44, sv 1 p1.length ANY), (45, iv (p1.length : Int)), (46, iv v241), (81, zq 2 4 v240 v239), (83, sv 8 1 1)]) [cl 126 [iv p0, sv 1 p1.length ANY, .map (some 3)], ab 86 e86 p1, ab 50 e50 p3, .map 50 (List.map (mEnc u50 u50) (mput v242 (o283.1, o283.2) (o215.1, o215.2))), ab 50 e50 v239, cl 50 [iv o215.1, .bool o215.2], .dead, .dead, cl 50 [iv o283.1, .bool o283.2]] (TI.zapp (s := 2) (enc := e50) (ts := #[25, 25]) (e := 50) (bytes := 16) (z := ag [iv 0, .bool false]) (y := sv 8 1 1) (ys := [(o283.1, o283.2)]) (L := v239) (q := v240) (b := 4) hg300 hg301 (by kernel_rfl) (by kernel_rfl) (by decide) (by kernel_rfl) (by kernel_rfl) (by kernel_rfl) (by kernel_rfl) (by kernel_rfl) (by kernel_rfl) (by kernel_rfl) (cells_ok (fun _ => rfl)) (fun _ => rfl) (by simp only [List.length_cons, List.length_nil]; omega) [0, 7, 44, 45, 46, 84] [0, 1, 2, 3, 5, 9] (a2 := (st 86 [(0, pt 0 0), (7, pt 5 0), (44, sv 1 p1.length ANY), (45, iv (p1.length : Int)), (46, iv v241), (84, sv 9 (List.length (List.drop v240 v239 ++ [(o283.1, o283.2)])) UNK)])) (h2 := [cl 126 [iv p0, sv 1 p1.length ANY, .map (some 3)], ab 86 e86 p1, ab 50 e50 p3, .map 50 (List.map (mEnc u50 u50) (mput v242 (o283.1, o283.2) (o215.1, o215.2))), .dead, cl 50 [iv o215.1, .bool o215.2], .dead, .dead, .dead, .cells 50 (List.flatMap e50 (List.drop v240 v239 ++ [(o283.1, o283.2)]))]) (by kernel_rfl) (TI.ra 1 [0, 4, 7, 44, 45, 46] (st 86 [(0, pt 0 0), (4, sv 9 (List.length (List.drop v240 v239 ++ [(o283.1, o283.2)])) UNK), (7, pt 5 0), (44, sv 1 p1.length ANY), (45, iv (p1.length : Int)), (46, iv v241)]) (TI.dn ?_))))
      have hF := Option.some.inj hF
      subst hF
      exact TS.weak (by exact (Wk.an [9, 5] (.lt (.fl (.sl (.cons (Rn.map _ (Nat.le_of_ble_eq_true rfl)) .nil))) (.ac (.ac (.cons (At.blk (by kernel_rfl) (RnB.map _ _)) (.cons (At.accU (by kernel_rfl) rfl (fun _ => rfl)) (.lt (.fl (.fl .nil)) (.nil _))))))) [pt 0 0, sv 9 (List.length (List.drop v240 v239 ++ [(o283.1, o283.2)])) UNK, pt 5 0, sv 1 p1.length ANY, iv (p1.length : Int), iv v241] (.pp (.cons (Rn.zU (i' := 9) (Nat.le_of_ble_eq_true (by rfl)) (by rfl) (by simp)) (.pp (.sl (.fl (.fl .nil)))))))) hK
    replace hF := of_neg hF hc299
    refine TS.sk ?_
    have hF := Option.some.inj hF
    subst hF
    exact TS.weak (by exact (Wk.an [4, 5] (.lt (.fl (.sl (.cons (Rn.map _ (Nat.le_of_ble_eq_true rfl)) .nil))) (.ac (.ac (.cons (At.blk (by kernel_rfl) (RnB.map _ _)) (.ac (.lt (.fl (.fl .nil)) (.nil _))))))) [pt 0 0, zq 2 4 v240 v239, pt 5 0, sv 1 p1.length ANY, iv (p1.length : Int), iv v241] (.pp (.cons (Rn.zq (i' := 4) (Nat.le_of_ble_eq_true (by rfl)) (by rfl)) (.pp (.sl (.fl (.fl .nil)))))))) hK
   clear hF
   have hF := hm276
   clear hm276
   refine TS.start ?_
   refine TS.cd (.tmp 52) ((r271.1 == o269.1.1) && ((r271.2 == o269.1.2) && true)) (fun hc303 => ?_) (fun hc303 => ?_)
   · replace hF := of_pos hF hc303
     refine TS.rg (TI.rn 3 [0, 4, 7, 10, 44, 45, 46] [0, 1, 2, 3, 4, 5, 7] (st 86 [(0, pt 0 0), (4, zq 2 4 v240 v239), (7, pt 5 0), (10, pt 7 0), (44, sv 1 p1.length ANY), (45, iv (p1.length : Int)), (46, iv v241)]) [cl 126 [iv p0, sv 1 p1.length ANY, .map (some 3)], ab 86 e86 p1, ab 50 e50 p3, mb 50 u50 u50 v242, ab 50 e50 v239, cl 50 [iv o215.1, .bool o215.2], .dead, cl 50 [iv o269.2.1, .bool o269.2.2]] (TI.dn ?_))
     have hF := Option.some.inj hF
     refine NX.nil (NX.bk ?_)
     exact TS.weak (by exact (Wk.an [4, 5, 7] (.lt (.fl (.sl (.cons (Rn.map _ (Nat.le_of_ble_eq_true rfl)) .nil))) (.ac (.ac (.cons (At.blk (by kernel_rfl) (RnB.map _ _)) (.ac (.lt (.fl (.fl .nil)) (.lt (.fl (.fl .nil)) (.nil _)))))))) [pt 0 0, zq 2 4 v240 v239, pt 5 0, pt 7 0, sv 1 p1.length ANY, iv (p1.length : Int), iv v241] (.pp (.cons (Rn.zq (i' := 4) (Nat.le_of_ble_eq_true (by rfl)) (by rfl)) (.pp (.pp (.sl (.fl (.fl .nil))))))))) (hk284 _ hF.symm)
   replace hF := of_neg hF hc303
   refine TS.sq (TS.rg (TI.ra 4 [0, 4, 7, 9, 10, 44, 45, 46, 58] (st 86 [(0, pt 0 0), (4, zq 2 4 v240 v239), (7, pt 5 0), (9, pt 6 0), (10, pt 7 0), (44, sv 1 p1.length ANY), (45, iv (p1.length : Int)), (46, iv v241), (58, .bool ((r271.1 == o269.2.1) && ((r271.2 == o269.2.2) && true)))]) (TI.dn (NX.sq ?_))))
   refine TS.cd (.tmp 58) ((r271.1 == o269.2.1) && ((r271.2 == o269.2.2) && true)) (fun hc304 => ?_) (fun hc304 => ?_)
   · replace hF := of_pos hF hc304
     refine TS.rg (TI.rn 3 [0, 4, 7, 10, 44, 45, 46] [0, 1, 2, 3, 4, 5, 7] (st 86 [(0, pt 0 0), (4, zq 2 4 v240 v239), (7, pt 5 0), (10, pt 7 0), (44, sv 1 p1.length ANY), (45, iv (p1.length : Int)), (46, iv v241)]) [cl 126 [iv p0, sv 1 p1.length ANY, .map (some 3)], ab 86 e86 p1, ab 50 e50 p3, mb 50 u50 u50 v242, ab 50 e50 v239, cl 50 [iv o215.1, .bool o215.2], .dead, cl 50 [iv o269.1.1, .bool o269.1.2]] (TI.dn ?_))
     have hF := Option.some.inj hF
     refine NX.nil (NX.bk ?_)
     exact TS.weak (by exact (Wk.an [4, 5, 7] (.lt (.fl (.sl (.cons (Rn.map _ (Nat.le_of_ble_eq_true rfl)) .nil))) (.ac (.ac (.cons (At.blk (by kernel_rfl) (RnB.map _ _)) (.ac (.lt (.fl (.fl .nil)) (.lt (.fl (.fl .nil)) (.nil _)))))))) [pt 0 0, zq 2 4 v240 v239, pt 5 0, pt 7 0, sv 1 p1.length ANY, iv (p1.length : Int), iv v241] (.pp (.cons (Rn.zq (i' := 4) (Nat.le_of_ble_eq_true (by rfl)) (by rfl)) (.pp (.pp (.sl (.fl (.fl .nil))))))))) (hk284 _ hF.symm)
   replace hF := of_neg hF hc304
   refine TS.ex 5 ?_
   have hF := Option.some.inj hF
   refine NX.nil (NX.bkY rfl (NX.sqX (NX.bkX ?_)))
   exact TS.weak (by exact (Wk.an [4, 5] (.lt (.fl (.sl (.cons (Rn.map _ (Nat.le_of_ble_eq_true rfl)) .nil))) (.ac (.ac (.cons (At.blk (by kernel_rfl) (RnB.map _ _)) (.ac (.lt (.fl (.fl .nil)) (.nil _))))))) [pt 0 0, zq 2 4 v240 v239, pt 5 0, sv 1 p1.length ANY, iv (p1.length : Int), iv v241] (.pp (.cons (Rn.zq (i' := 4) (Nat.le_of_ble_eq_true (by rfl)) (by rfl)) (.pp (.sl (.fl (.fl .nil)))))))) (hk278 _ hF.symm)
 replace hF := of_neg hF hc267
 refine TS.ex 4 (NX.sqX ?_)
 have hF := Option.some.inj hF
 subst hF
 exact Rd.out (e := .exit 4) (by intro h; cases h) (And.intro rfl (Wk.an [4] (.lt (.fl (.sl (.cons (Rn.map _ (Nat.le_of_ble_eq_true rfl)) .nil))) (.ac (.ac (.cons (At.blk (by kernel_rfl) (RnB.map _ _)) (.ac (.nil _)))))) [pt 0 0, zq 2 4 v240 v239] (.pp (.cons (Rn.zq (i' := 4) (Nat.le_of_ble_eq_true (by rfl)) (by rfl)) .nil))))
def P67l1 (p0 : Int) (p1 : (List ((Int × Bool) × (Int × Bool)))) (p3 : (List (Int × Bool))) (r : (List ((Int × Bool) × (Int × Bool)))) : Post := fun e a h => e = .exit 2 ∧ Wk Try.prog 3 4 a h (st 86 []) [cl 126 [iv p0, sv 1 p1.length ANY, .map (some 3)], ab 86 e86 p1, ab 50 e50 p3, mb 50 u50 u50 r]
theorem L67l1 (p0 : Int) (p1 : (List ((Int × Bool) × (Int × Bool)))) (p3 : (List (Int × Bool))) (v115 : Nat) (v116 : (List ((Int × Bool) × (Int × Bool)))) (v114 : (List (Int × Bool))) (r : (List ((Int × Bool) × (Int × Bool)))) (hF : F67l1 p0 p1 p3 v115 v116 v114 = some r) : TL Try.prog 3 4 c67.s2.s2.s2.bd.bd (st 86 [(0, pt 0 0), (4, zq 2 4 v115 v114)]) (H67_16 p0 p1 p3 v116 v114) (P67l1 p0 p1 p3 r) := by
 refine F67l1.partial_correctness p0 p1 p3 (motive := fun v115 v116 v114 r => TL Try.prog 3 4 c67.s2.s2.s2.bd.bd (st 86 [(0, pt 0 0), (4, zq 2 4 v115 v114)]) (H67_16 p0 p1 p3 v116 v114) (P67l1 p0 p1 p3 r)) ?_ v115 v116 v114 r hF
 clear hF r v115 v116 v114
 intro again ih v115 v116 v114 r hF
 refine TL.round (TS.sq (TS.sq (TS.rg (TI.ra 3 [0, 4, 34] (st 86 [(0, pt 0 0), (4, zq 2 4 v115 v114), (34, .bool (decide ((List.length (List.drop v115 v114) : Int) > 0)))]) (TI.dn (NX.sq ?_))))))
 refine TS.cd (.tmp 34) (decide ((List.length (List.drop v115 v114) : Int) > 0)) (fun hc213 => ?_) (fun hc213 => ?_)
 · replace hF := of_pos hF hc213
   refine TS.sk (NX.sq (TS.bk 3 (TS.sc (TS.sq ?_))))
   have hX := of_guard hF
   clear hF
   obtain ⟨hg214, hF⟩ := hX
   have hX := of_do hF
   clear hF
   obtain ⟨o215, h216, hF⟩ := hX
   replace h216 := Option.some.inj h216
   refine TS.rg (TI.ra 1 [0, 4, 35] (st 86 [(0, pt 0 0), (4, zq 2 4 v115 v114), (35, zq 2 4 v115 v114)]) (TI.o { val := .pointer (some ⟨4, 0 + v115 * 2 + (Int.toNat 0) * 2, none⟩) } (q_ixS 4 (0 + v115 * 2) ((Int.toNat 0) * 2) (by kernel_rfl) hg214) [0, 4, 36] [0, 1, 2, 3, 4] (st 86 [(0, pt 0 0), (4, zq 2 4 v115 v114), (36, .pointer (some ⟨4, 0 + v115 * 2 + (Int.toNat 0) * 2, none⟩))]) (H67_16 p0 p1 p3 v116 v114) ?_))
   refine TI.o { val := ag [iv o215.1, .bool o215.2] } (q_eqv (q_ldAW (P := Try.prog) (hp := (H67_16 p0 p1 p3 v116 v114)) (t := 50) (b := 4) (o := 0 + v115 * 2 + (Int.toNat 0) * 2) (off := 0 + v115 * 2) (L := v114) (ys := List.drop v115 v114) (enc := e50) (s := 2) (T := 50) (i := Int.toNat 0) (win_drop win_all _) (holds_acc (hp := (H67_16 p0 p1 p3 v116 v114)) (b := 4) (T := 50) (enc := e50) (L := v114) (by kernel_rfl)) (by kernel_rfl) (by kernel_rfl) (by kernel_rfl) (fun _ => rfl) rfl (by first | omega | (simp <;> omega)) (0, false)) (congrArg (fun (z : (Int × Bool)) => ({ val := ag [iv z.1, .bool z.2] } : QRes)) h216)) [0, 4, 37] [0, 1, 2, 3, 4] (st 86 [(0, pt 0 0), (4, zq 2 4 v115 v114), (37, ag [iv o215.1, .bool o215.2])]) (H67_16 p0 p1 p3 v116 v114) (TI.rn 2 [0, 4, 7] [0, 1, 2, 3, 4, 5] (st 86 [(0, pt 0 0), (4, zq 2 4 v115 v114), (7, pt 5 0)]) (H67_11 p0 p1 p3 v116 v114 o215) (TI.dn (NX.sq (TS.sq ?_))))
   have hX := of_guard hF
   clear hF
   obtain ⟨hg217, hF⟩ := hX
   have hX := of_guard hF
   clear hF
   obtain ⟨hg218, hF⟩ := hX
   refine TS.rg (TI.ra 1 [0, 7, 38] (st 86 [(0, pt 0 0), (7, pt 5 0), (38, zq 2 4 v115 v114)]) (TI.o { val := zq 2 4 (v115 + Int.toNat 1) v114 } (zq_lo (P := Try.prog) (t := 25) (e := 50) (s := 2) (k := .i64) (y := 1) (L := v114) (q := v115) (b := 4) hg218 (by kernel_rfl) (by kernel_rfl) (by kernel_rfl) hg217) [0, 7, 39] [0, 1, 2, 3, 4, 5] (st 86 [(0, pt 0 0), (7, pt 5 0), (39, zq 2 4 (v115 + Int.toNat 1) v114)]) (H67_11 p0 p1 p3 v116 v114 o215) (TI.ra 1 [0, 4, 7] (st 86 [(0, pt 0 0), (4, zq 2 4 (v115 + Int.toNat 1) v114), (7, pt 5 0)]) (TI.dn (NX.sq (TS.sq (TS.label' (l := 0) (by kernel_rfl) (NX.sq ?_))))))))
   refine TS.sq (TS.rg (TI.ra 7 [0, 4, 7, 44, 45, 46] (st 86 [(0, pt 0 0), (4, zq 2 4 (v115 + Int.toNat 1) v114), (7, pt 5 0), (44, sv 1 p1.length ANY), (45, iv (p1.length : Int)), (46, iv 0)]) (TI.dn (NX.sq (TS.bk 4 ?_)))))
   have hX := of_do hF
   clear hF
   obtain ⟨r305, h306, hF⟩ := hX
   refine TS.lp (TL.weak (a2 := (st 86 [(0, pt 0 0), (4, zq 2 4 (v115 + Int.toNat 1) v114), (7, pt 5 0), (44, sv 1 p1.length ANY), (45, iv (p1.length : Int)), (46, iv 0)])) (h2 := (H67_11 p0 p1 p3 v116 v114 o215)) (Wk.an [4, 5] (.lt (.fl (.sl (.cons (Rn.map _ (Nat.le_of_ble_eq_true rfl)) .nil))) (.ac (.ac (.cons (At.blk (by kernel_rfl) (RnB.map _ _)) (.ac (.lt (.fl (.fl .nil)) (.nil _))))))) [pt 0 0, zq 2 4 (v115 + Int.toNat 1) v114, pt 5 0, sv 1 p1.length ANY, iv (p1.length : Int), iv 0] (.pp (.cons (Rn.zq (i' := 4) (Nat.le_of_ble_eq_true (by rfl)) (by rfl)) (.pp (.sl (.fl (.fl .nil))))))) (TL.post (L67l2 p0 p1 p3 o215 (v115 + Int.toNat 1) 0 v116 v114 r305 h306) ?_))
   rintro e a1 h1 hp
   obtain ⟨rfl, hw⟩ := hp
   refine ⟨(st 86 [(0, pt 0 0), (4, zq 2 4 r305.1 r305.2.1)]), (H67_14 p0 p1 p3 r305), (NX.bkX (NX.scN (NX.bk ?_))), hw⟩
   exact Rd.again (a2 := (st 86 [(0, pt 0 0), (4, zq 2 4 r305.1 r305.2.1)])) (h2 := (H67_14 p0 p1 p3 r305)) (Wk.an [4] (.lt (.fl (.sl (.cons (Rn.map _ (Nat.le_of_ble_eq_true rfl)) .nil))) (.ac (.ac (.cons (At.blk (by kernel_rfl) (RnB.map _ _)) (.ac (.nil _)))))) [pt 0 0, zq 2 4 r305.1 r305.2.1] (.pp (.cons (Rn.zq (i' := 4) (Nat.le_of_ble_eq_true (by rfl)) (by rfl)) .nil))) (ih r305.1 r305.2.2 r305.2.1 _ hF)
 replace hF := of_neg hF hc213
 refine TS.ex 2 (NX.sqX ?_)
 have hF := Option.some.inj hF
 subst hF
 exact Rd.out (e := .exit 2) (by intro h; cases h) (And.intro rfl (Wk.an [] (.lt (.fl (.sl (.cons (Rn.map _ (Nat.le_of_ble_eq_true rfl)) .nil))) (.ac (.ac (.cons (At.blk (by kernel_rfl) (RnB.map _ _)) (.nil _))))) [] .nil))
theorem B67 (rec67 : Int → (List ((Int × Bool) × (Int × Bool))) → (List ((Int × Bool) × (Int × Bool))) → (List (Int × Bool)) → Option (List ((Int × Bool) × (Int × Bool)))) (hrec67 : ∀ (p0 : Int) (p1 : (List ((Int × Bool) × (Int × Bool)))) (p2 : (List ((Int × Bool) × (Int × Bool)))) (p3 : (List (Int × Bool))) (r : (List ((Int × Bool) × (Int × Bool)))), rec67 p0 p1 p2 p3 = some r → ImpSim Try.prog 67 [pt 0 0, sv 2 p3.length ANY] 3 ((H67_18 p0 p1 p3) ++ [mb 50 u50 u50 p2]) (.tuple ⟨[]⟩) ((H67_18 p0 p1 p3) ++ [mb 50 u50 u50 r])) (p0 : Int) (p1 : (List ((Int × Bool) × (Int × Bool)))) (p2 : (List ((Int × Bool) × (Int × Bool)))) (p3 : (List (Int × Bool))) (r : (List ((Int × Bool) × (Int × Bool)))) (hF : F67b rec67 p0 p1 p2 p3 = some r) : TS Try.prog 3 4 c67 (st 86 [(0, pt 0 0), (1, sv 2 p3.length ANY)]) [cl 126 [iv p0, sv 1 p1.length ANY, .map (some 3)], ab 86 e86 p1, ab 50 e50 p3, mb 50 u50 u50 p2] (NX Try.prog 3 4 [] (ImpFin [cl 126 [iv p0, sv 1 p1.length ANY, .map (some 3)], ab 86 e86 p1, ab 50 e50 p3, mb 50 u50 u50 r])) := by
 unfold F67b at hF
 refine TS.sq (TS.rg (TI.rn 5 [0, 1] [0, 1, 2, 3] (st 86 [(0, pt 0 0), (1, sv 2 p3.length ANY)]) [cl 126 [iv p0, sv 1 p1.length ANY, .map (some 3)], ab 86 e86 p1, ab 50 e50 p3, .map 50 (List.map (mEnc u50 u50) ([] : (List ((Int × Bool) × (Int × Bool)))))] (TI.dn (NX.sq (TS.sq ?_)))))
 have hX := of_do hF
 clear hF
 obtain ⟨r1, h2, hF⟩ := hX
 refine TS.rg (TI.ra 1 [0, 1, 17] (st 86 [(0, pt 0 0), (1, sv 2 p3.length ANY), (17, sv 2 p3.length ANY)]) (TI.cp 56 [sv 2 p3.length ANY] (zq 2 4 0 r1) [ab 50 e50 r1] (PureSim.ren (hc := [ab 50 e50 p3]) (fun i => List.getD [(2, 0)] i (0, 0)) (C56 _ _ h2) (.ac (.nil _)) (.cons (Rn.any _ _ _ _ _ _ (Nat.le_of_ble_eq_true rfl) rfl rfl (by decide)) .nil) (Rn.zq (i' := 4) (Nat.le_of_ble_eq_true rfl) rfl) (newflat_cons (accB_flat (fun _ => rfl)) newflat_nil)) (TI.rn 1 [0, 1, 4] [0, 1, 2, 3, 4] (st 86 [(0, pt 0 0), (1, sv 2 p3.length ANY), (4, zq 2 4 0 r1)]) (H67_9 p0 p1 p3 r1) (TI.dn (NX.sq (TS.sq (TS.sq (TS.rg ?_))))))))
 refine TI.ra 3 [0, 4, 19, 20, 21] (st 86 [(0, pt 0 0), (4, zq 2 4 0 r1), (19, sv 2 p3.length ANY), (20, iv (p3.length : Int)), (21, iv 0)]) (TI.dn (NX.sq (TS.bk 0 ?_)))
 have hX := of_do hF
 clear hF
 obtain ⟨r19, h20, hF⟩ := hX
 refine TS.lp (TL.weak (a2 := (st 86 [(0, pt 0 0), (4, zq 2 4 0 r1), (19, sv 2 p3.length ANY), (20, iv (p3.length : Int)), (21, iv 0)])) (h2 := (H67_9 p0 p1 p3 r1)) (Wk.an [4] (.lt (.fl (.sl (.cons (Rn.map _ (Nat.le_of_ble_eq_true rfl)) .nil))) (.ac (.ac (.cons (At.blk (by kernel_rfl) (RnB.map _ _)) (.ac (.nil _)))))) [pt 0 0, zq 2 4 0 r1, sv 2 p3.length ANY, iv (p3.length : Int), iv 0] (.pp (.cons (Rn.zq (i' := 4) (Nat.le_of_ble_eq_true (by rfl)) (by rfl)) (.sl (.fl (.fl .nil)))))) (TL.post (L67l0 p0 p1 p3 r1 0 ([] : (List ((Int × Bool) × (Int × Bool)))) r19 h20) ?_))
 rintro e a1 h1 hp
 obtain ⟨rfl, hw⟩ := hp
 refine ⟨(st 86 [(0, pt 0 0), (4, zq 2 4 0 r1)]), [cl 126 [iv p0, sv 1 p1.length ANY, .map (some 3)], ab 86 e86 p1, ab 50 e50 p3, mb 50 u50 u50 r19, ab 50 e50 r1], (NX.bkX (NX.sq (TS.bk 2 ?_))), hw⟩
 have hX := of_do hF
 clear hF
 obtain ⟨r307, h308, hF⟩ := hX
 refine TS.lp (TL.weak (a2 := (st 86 [(0, pt 0 0), (4, zq 2 4 0 r1)])) (h2 := [cl 126 [iv p0, sv 1 p1.length ANY, .map (some 3)], ab 86 e86 p1, ab 50 e50 p3, mb 50 u50 u50 r19, ab 50 e50 r1]) (Wk.an [4] (.lt (.fl (.sl (.cons (Rn.map _ (Nat.le_of_ble_eq_true rfl)) .nil))) (.ac (.ac (.cons (At.blk (by kernel_rfl) (RnB.map _ _)) (.ac (.nil _)))))) [pt 0 0, zq 2 4 0 r1] (.pp (.cons (Rn.zq (i' := 4) (Nat.le_of_ble_eq_true (by rfl)) (by rfl)) .nil))) (TL.post (L67l1 p0 p1 p3 0 r19 r1 r307 h308) ?_))
 rintro e a1 h1 hp
 obtain ⟨rfl, hw⟩ := hp
 refine ⟨(st 86 []), [cl 126 [iv p0, sv 1 p1.length ANY, .map (some 3)], ab 86 e86 p1, ab 50 e50 p3, mb 50 u50 u50 r307], (NX.bkX ?_), hw⟩
 have hF := Option.some.inj hF
 subst hF
 exact ⟨.inl rfl, rfl, [], by kernel_rfl⟩
theorem C67 (k : Nat) : ∀ (p0 : Int) (p1 : (List ((Int × Bool) × (Int × Bool)))) (p2 : (List ((Int × Bool) × (Int × Bool)))) (p3 : (List (Int × Bool))) (r : (List ((Int × Bool) × (Int × Bool)))), F67 k p0 p1 p2 p3 = some r → ImpSim Try.prog 67 [pt 0 0, sv 2 p3.length ANY] 3 ((H67_18 p0 p1 p3) ++ [mb 50 u50 u50 p2]) (.tuple ⟨[]⟩) ((H67_18 p0 p1 p3) ++ [mb 50 u50 u50 r]) := by
 induction k with
 | zero => intro p0 p1 p2 p3 r hF; cases (show (none : Option (List ((Int × Bool) × (Int × Bool)))) = some r from hF)
 | succ k ih =>
  intro p0 p1 p2 p3 r hF
  exact ImpSim.of_Fin Try.func67 (c := c67) (by kernel_rfl) (by kernel_rfl) rfl 3 4 rfl rfl (by decide) (selfOk_cons (fun n hn => .inr (RnB.lit (.fl (.cons (Rn.slice0 _ _ _ _ (Nat.lt_of_lt_of_le (Nat.le_of_ble_eq_true rfl) hn) rfl) (.cons (Rn.map _ (Nat.lt_of_lt_of_le (Nat.le_of_ble_eq_true rfl) hn)) .nil))))) (selfOk_cons (selfOk_flat (accB_flat (fun _ => rfl))) (selfOk_cons (selfOk_flat (accB_flat (fun _ => rfl))) (selfOk_cons (selfOk_flat (.inr rfl)) selfOk_nil)))) [0, 1] (by kernel_rfl) (B67 (F67 k) ih p0 p1 p2 p3 r hF)
noncomputable def c57 : Code := Try.f57.code
def H57_0 (p0 : Int) (p1 : (List ((Int × Bool) × (Int × Bool)))) (p3 : (List (Int × Bool))) (r1 : (List ((Int × Bool) × (Int × Bool)))) : List Blk := [cl 126 [iv p0, sv 1 p1.length ANY, .map (some 3)], ab 86 e86 p1, ab 50 e50 p3, mb 50 u50 u50 r1]
def H57_1 (p0 : Int) (p1 : (List ((Int × Bool) × (Int × Bool)))) (p3 : (List (Int × Bool))) : List Blk := [cl 126 [iv p0, sv 1 p1.length ANY, .map (some 3)], ab 86 e86 p1, ab 50 e50 p3]
def F57r0 (p0 : Int) (p1 : (List ((Int × Bool) × (Int × Bool)))) (p3 : (List (Int × Bool))) (r1 : (List ((Int × Bool) × (Int × Bool)))) (z12 : Unit) (v3 : (Int × Bool) × (Int × Bool)) : Option (Unit ⊕ (Unit ⊕ Unit)) :=
 F72 v3.1.1 v3.1.2 >>= fun r8 =>
 F68 p0 p1 r1 r8.1 r8.2 >>= fun r10 =>
 if r10 then
  some (.inr (.inl ()))
 else
  some (.inl ())
def F57l0 (p0 : Int) (p1 : (List ((Int × Bool) × (Int × Bool)))) (p3 : (List (Int × Bool))) (r1 : (List ((Int × Bool) × (Int × Bool)))) : Unit → List ((Int × Bool) × (Int × Bool)) → Option (Unit ⊕ Unit)
 | z12, [] =>
  some (.inr ())
 | z12, q :: es => (F57r0 p0 p1 p3 r1 z12 q).bind fun w => match w with | .inl z2 => F57l0 p0 p1 p3 r1 z2 es | .inr r2 => some r2
def F57b (rec57 : Int → (List ((Int × Bool) × (Int × Bool))) → (List ((Int × Bool) × (Int × Bool))) → (List (Int × Bool)) → Option (Bool × (List ((Int × Bool) × (Int × Bool))))) (p0 : Int) (p1 : (List ((Int × Bool) × (Int × Bool)))) (p2 : (List ((Int × Bool) × (Int × Bool)))) (p3 : (List (Int × Bool))) : Option (Bool × (List ((Int × Bool) × (Int × Bool)))) :=
 F67 1 p0 p1 p2 p3 >>= fun r1 =>
 permAll (fun es => F57l0 p0 p1 p3 r1 () es) r1 >>= fun r13 =>
 match r13 with
 | .inl o15 =>
  some (false, r1)
 | .inr o16 =>
  some (true, r1)
def F57 : Nat → Int → (List ((Int × Bool) × (Int × Bool))) → (List ((Int × Bool) × (Int × Bool))) → (List (Int × Bool)) → Option (Bool × (List ((Int × Bool) × (Int × Bool))))
 | 0 => fun _ _ _ _ => none
 | k + 1 => F57b (F57 k)
theorem F57l0_cons (p0 : Int) (p1 : (List ((Int × Bool) × (Int × Bool)))) (p3 : (List (Int × Bool))) (r1 : (List ((Int × Bool) × (Int × Bool)))) (z : Unit) (q : (Int × Bool) × (Int × Bool)) (es : List ((Int × Bool) × (Int × Bool))) : F57l0 p0 p1 p3 r1 (z) (q :: es) = (F57r0 p0 p1 p3 r1 z q).bind (mapNext (F57l0 p0 p1 p3 r1) es) := by rw [F57l0]; congr 1; funext w; cases w <;> rfl
def P57l0 (p0 : Int) (p1 : (List ((Int × Bool) × (Int × Bool)))) (p3 : (List (Int × Bool))) (r1 : (List ((Int × Bool) × (Int × Bool)))) (r : (Unit ⊕ Unit)) : Post := fun e a h => (match r with | .inl q0 => e = .ret ∧ Wk Try.prog 3 4 a h (st 22 [(4, .bool false)]) (H57_0 p0 p1 p3 r1) | .inr q0 => e = .exit 0 ∧ Wk Try.prog 3 4 a h (st 22 []) (H57_0 p0 p1 p3 r1))
theorem L57l0 (p0 : Int) (p1 : (List ((Int × Bool) × (Int × Bool)))) (p3 : (List (Int × Bool))) (r1 : (List ((Int × Bool) × (Int × Bool)))) (arr3_4 : Array MapEntry) (clock3_4 : Nat) (hst3_4 : Stamped arr3_4 clock3_4) (hkv3_4 : arr3_4.toList.map (fun e => (e.key, e.val)) = List.map (mEnc u50 u50) r1) : ∀ (m : Nat) (seen3_4 : Array Nat) (z12 : Unit) (es : List ((Int × Bool) × (Int × Bool))) (r : (Unit ⊕ Unit)), (leftOf arr3_4 seen3_4).size < m → Ents u50 u50 arr3_4 seen3_4 es → (∀ es2, List.Perm es2 es → F57l0 p0 p1 p3 r1 z12 es2 = some r) → TL Try.prog 3 4 c57.s2.s2.s1.s2.bd.bd (st 22 [(0, pt 0 0), (13, pt 4 0)]) [cl 126 [iv p0, sv 1 p1.length ANY, .map (some 3)], ab 86 e86 p1, ab 50 e50 p3, .mapS 50 arr3_4 clock3_4, .iter 3 clock3_4 seen3_4 clock3_4] (P57l0 p0 p1 p3 r1 r) := by
 intro m
 induction m with
 | zero => intro seen3_4 z12 es r hm; omega
 | succ m ih =>
  intro seen3_4 z12 es r hm hes hAll
  refine TL.round (TS.sq (TS.rg ?_))
  refine TI.next (it := (.tmp 13)) (i := 4) (m := 3) (since := clock3_4) (last := clock3_4) (seen := seen3_4) (arr := arr3_4) (clock := clock3_4) (kt := 50) (by kernel_rfl) (by kernel_rfl) (by decide) (by kernel_rfl) (by kernel_rfl) hst3_4.1 (Nat.le_refl _) (fun h0 => ?_) (fun en3_4 he3_4 => ?_)
  · obtain rfl := ents_none hes h0
    have hF := hAll [] (List.Perm.refl _)
    refine TI.rn 0 [0, 13, 14] [0, 1, 2, 3, 4] (st 22 [(0, pt 0 0), (13, pt 4 0), (14, .tuple ⟨[.bool false]⟩)]) [cl 126 [iv p0, sv 1 p1.length ANY, .map (some 3)], ab 86 e86 p1, ab 50 e50 p3, .mapS 50 arr3_4 clock3_4, .iter 3 clock3_4 seen3_4 clock3_4] (TI.ra 1 [0, 13, 15] (st 22 [(0, pt 0 0), (13, pt 4 0), (15, .bool false)]) (TI.dn (NX.sq (TS.sq (TS.cdF (.tmp 15) (TS.ex 0 (NX.sqX ?_)))))))
    have hF := Option.some.inj hF
    subst hF
    exact Rd.out (e := .exit 0) (by intro h; cases h) (And.intro rfl (Wk.an [] (.lt (.fl (.sl (.cons (Rn.map _ (Nat.le_of_ble_eq_true rfl)) .nil))) (.ac (.ac (.cons (At.blk (b1 := .mapS 50 arr3_4 clock3_4) (by kernel_rfl) (RnB.mapW _ _ _ _ hkv3_4)) (.nil _))))) [] .nil))
  obtain ⟨v3, es2, hk3_4, hv3_4, hp, hes2⟩ := ents_take hes hst3_4 he3_4
  have hA := perm_next hAll hp
  simp only [F57l0_cons] at hA
  obtain ⟨w, hF, _⟩ := Option.bind_eq_some_iff.1 (hA es2 (List.Perm.refl _))
  replace hA : ∀ es3, List.Perm es3 es2 → mapNext (F57l0 p0 p1 p3 r1) es3 w = some r := fun es3 he3 => by have h3 := hA es3 he3; rw [hF] at h3; exact h3
  rw [hk3_4, hv3_4]
  refine TI.rn 0 [0, 13, 14] [0, 1, 2, 3, 4] (st 22 [(0, pt 0 0), (13, pt 4 0), (14, .tuple ⟨[.bool true, ag [iv v3.1.1, .bool v3.1.2], ag [iv v3.2.1, .bool v3.2.2]]⟩)]) [cl 126 [iv p0, sv 1 p1.length ANY, .map (some 3)], ab 86 e86 p1, ab 50 e50 p3, .mapS 50 arr3_4 clock3_4, .iter 3 clock3_4 (Array.push seen3_4 en3_4.born) clock3_4] (TI.ra 1 [0, 13, 15] (st 22 [(0, pt 0 0), (13, pt 4 0), (15, .bool true)]) (TI.dn (NX.sq (TS.sq (TS.cdT (.tmp 15) (TS.sk (NX.sq (TS.bk 1 ?_))))))))
  refine TS.sq (TS.rg ?_)
  refine TI.entry (it := (.tmp 13)) (i := 4) (m := 3) (since := clock3_4) (seen := seen3_4) (arr := arr3_4) (clock := clock3_4) (kt := 50) (e := en3_4) (by kernel_rfl) (by kernel_rfl) (by kernel_rfl) (by kernel_rfl) (left_mem he3_4) hst3_4.2 (a1 := putAt c57.s2.s2.s1.s2.bd.bd.s2.s2.bd.s1.rops 0 (st 22 [(0, pt 0 0), (13, pt 4 0), (15, .bool true)]) (.tuple #[u50 v3.1, u50 v3.2])) (by rw [hk3_4, hv3_4]) (TI.rn 0 [0, 13, 16] [0, 1, 2, 3, 4] (st 22 [(0, pt 0 0), (13, pt 4 0), (16, .tuple ⟨[ag [iv v3.1.1, .bool v3.1.2], ag [iv v3.2.1, .bool v3.2.2]]⟩)]) [cl 126 [iv p0, sv 1 p1.length ANY, .map (some 3)], ab 86 e86 p1, ab 50 e50 p3, .mapS 50 arr3_4 clock3_4, .iter 3 clock3_4 (Array.push seen3_4 en3_4.born) clock3_4] (TI.rn 3 [0, 5, 13] [0, 1, 2, 3, 4, 5] (st 22 [(0, pt 0 0), (5, pt 5 0), (13, pt 4 0)]) [cl 126 [iv p0, sv 1 p1.length ANY, .map (some 3)], ab 86 e86 p1, ab 50 e50 p3, .mapS 50 arr3_4 clock3_4, .iter 3 clock3_4 (Array.push seen3_4 en3_4.born) clock3_4, cl 50 [iv v3.1.1, .bool v3.1.2]] (TI.dn (NX.sq (TS.sq ?_)))))
  have hX := of_do hF
  clear hF
  obtain ⟨r8, h9, hF⟩ := hX
  have hX := of_do hF
  clear hF
  obtain ⟨r10, h11, hF⟩ := hX
  refine TS.rg (TI.rn 2 [0, 13, 18, 19] [0, 1, 2, 3, 4] (st 22 [(0, pt 0 0), (13, pt 4 0), (18, pt 0 0), (19, ag [iv v3.1.1, .bool v3.1.2])]) [cl 126 [iv p0, sv 1 p1.length ANY, .map (some 3)], ab 86 e86 p1, ab 50 e50 p3, .mapS 50 arr3_4 clock3_4, .iter 3 clock3_4 (Array.push seen3_4 en3_4.born) clock3_4, .dead] (TI.cm (PureSim.ak (C72 _ _ _ h9)) [0, 13, 18, 20] [0, 1, 2, 3, 4] (st 22 [(0, pt 0 0), (13, pt 4 0), (18, pt 0 0), (20, ag [iv r8.1, .bool r8.2])]) [cl 126 [iv p0, sv 1 p1.length ANY, .map (some 3)], ab 86 e86 p1, ab 50 e50 p3, .mapS 50 arr3_4 clock3_4, .iter 3 clock3_4 (Array.push seen3_4 en3_4.born) clock3_4, .dead] (TI.callM (g := 68) (args := [pt 0 0, ag [iv r8.1, .bool r8.2]]) (v := .bool r10) (new := []) (by kernel_rfl) (PureSim.ren (hc := [cl 126 [iv p0, sv 1 p1.length ANY, .map (some 2)], ab 86 e86 p1, mb 50 u50 u50 r1]) (fun i => List.getD [(0, 0), (1, 0), (3, 0)] i (0, 0)) (C68 _ _ _ _ _ _ h11) (.cons (At.blk (b1 := cl 126 [iv p0, sv 1 p1.length ANY, .map (some 3)]) (by kernel_rfl) (RnB.lit (.fl (.cons (Rn.any _ _ _ _ _ _ (Nat.le_of_ble_eq_true rfl) rfl rfl (by decide)) (.cons (Rn.map _ (Nat.le_of_ble_eq_true rfl)) .nil))))) (.ac (.cons (At.blk (b1 := .mapS 50 arr3_4 clock3_4) (by kernel_rfl) (RnB.mapW _ _ _ _ hkv3_4)) (.nil _)))) (.pp (.fl .nil)) (.flat (by kernel_rfl)) newflat_nil) [0, 13, 21] [0, 1, 2, 3, 4] (a2 := (st 22 [(0, pt 0 0), (13, pt 4 0), (21, .bool r10)])) (h2 := [cl 126 [iv p0, sv 1 p1.length ANY, .map (some 3)], ab 86 e86 p1, ab 50 e50 p3, .mapS 50 arr3_4 clock3_4, .iter 3 clock3_4 (Array.push seen3_4 en3_4.born) clock3_4, .dead]) (by kernel_rfl) (TI.dn (NX.sq ?_)))))
  cases r10 with
  | true =>
   replace hF := of_pos hF rfl
   refine TS.cdT (.tmp 21) (TS.sq (TS.rg (TI.rn 1 [4] [0, 1, 2, 3] (st 22 [(4, .bool false)]) [cl 126 [iv p0, sv 1 p1.length ANY, .map (some 3)], ab 86 e86 p1, ab 50 e50 p3, .mapS 50 arr3_4 clock3_4, .dead, .dead] (TI.dn (NX.sq (TS.rt (NX.bkR ?_)))))))
   have hF := Option.some.inj hF
   subst hF
   have hr := Option.some.inj (hA es2 (List.Perm.refl _))
   subst hr
   exact Rd.out (e := .ret) (by intro h; cases h) (And.intro rfl (Wk.an [] (.lt (.fl (.sl (.cons (Rn.map _ (Nat.le_of_ble_eq_true rfl)) .nil))) (.ac (.ac (.cons (At.blk (b1 := .mapS 50 arr3_4 clock3_4) (by kernel_rfl) (RnB.mapW _ _ _ _ hkv3_4)) (.nil _))))) [.bool false] (.fl .nil)))
  | false =>
   replace hF := of_neg hF rfl
   refine TS.cdF (.tmp 21) (TS.sk (NX.bk ?_))
   have hF := Option.some.inj hF
   subst hF
   exact Rd.again (a2 := (st 22 [(0, pt 0 0), (13, pt 4 0)])) (h2 := [cl 126 [iv p0, sv 1 p1.length ANY, .map (some 3)], ab 86 e86 p1, ab 50 e50 p3, .mapS 50 arr3_4 clock3_4, .iter 3 clock3_4 (Array.push seen3_4 en3_4.born) clock3_4]) (Wk.an [4] (.lt (.fl (.sl (.cons (Rn.map _ (Nat.le_of_ble_eq_true rfl)) .nil))) (.ac (.ac (.cons (At.blk (by kernel_rfl) (RnB.mapS _ _ _)) (.cons (At.blk (by kernel_rfl) (RnB.iter _ _ _ _ (Nat.le_of_ble_eq_true rfl))) (.nil _)))))) [pt 0 0, pt 4 0] (.pp (.pp .nil))) (ih (Array.push seen3_4 en3_4.born) () es2 r (by have := left_less he3_4; omega) hes2 (fun es3 he3 => hA es3 he3))
theorem B57 (rec57 : Int → (List ((Int × Bool) × (Int × Bool))) → (List ((Int × Bool) × (Int × Bool))) → (List (Int × Bool)) → Option (Bool × (List ((Int × Bool) × (Int × Bool))))) (hrec57 : ∀ (p0 : Int) (p1 : (List ((Int × Bool) × (Int × Bool)))) (p2 : (List ((Int × Bool) × (Int × Bool)))) (p3 : (List (Int × Bool))) (r : (Bool × (List ((Int × Bool) × (Int × Bool))))), rec57 p0 p1 p2 p3 = some r → ImpSim Try.prog 57 [pt 0 0, sv 2 p3.length ANY] 3 ((H57_1 p0 p1 p3) ++ [mb 50 u50 u50 p2]) (.bool r.1) ((H57_1 p0 p1 p3) ++ [mb 50 u50 u50 r.2])) (p0 : Int) (p1 : (List ((Int × Bool) × (Int × Bool)))) (p2 : (List ((Int × Bool) × (Int × Bool)))) (p3 : (List (Int × Bool))) (r : (Bool × (List ((Int × Bool) × (Int × Bool))))) (hF : F57b rec57 p0 p1 p2 p3 = some r) : TS Try.prog 3 4 c57 (st 22 [(0, pt 0 0), (1, sv 2 p3.length ANY)]) [cl 126 [iv p0, sv 1 p1.length ANY, .map (some 3)], ab 86 e86 p1, ab 50 e50 p3, mb 50 u50 u50 p2] (NX Try.prog 3 4 [] (ImpFinV Try.prog Try.f57 (.bool r.1) [cl 126 [iv p0, sv 1 p1.length ANY, .map (some 3)], ab 86 e86 p1, ab 50 e50 p3, mb 50 u50 u50 r.2])) := by
 unfold F57b at hF
 refine TS.sq (TS.rg (TI.ra 1 [0, 1] (st 22 [(0, pt 0 0), (1, sv 2 p3.length ANY)]) (TI.dn (NX.sq (TS.sq ?_)))))
 have hX := of_do hF
 clear hF
 obtain ⟨r1, h2, hF⟩ := hX
 refine TS.rg (TI.ra 2 [0, 6, 7] (st 22 [(0, pt 0 0), (6, pt 0 0), (7, sv 2 p3.length ANY)]) (TI.icallM (g := 67) (args := [pt 0 0, sv 2 p3.length ANY]) (v := .tuple ⟨[]⟩) (by kernel_rfl) (ImpSim.frameB (n := 4) (h := [cl 126 [iv p0, sv 1 p1.length ANY, .map (some 3)], ab 86 e86 p1, ab 50 e50 p3, mb 50 u50 u50 p2]) (ro := (H57_1 p0 p1 p3)) (wr := [mb 50 u50 u50 p2]) (wr' := [mb 50 u50 u50 r1]) (fun i => List.getD [(0, 0), (1, 0), (2, 0), (3, 0)] i (0, 0)) (C67 1 _ _ _ _ _ h2) rfl rfl (.cons (At.blk (b1 := cl 126 [iv p0, sv 1 p1.length ANY, .map (some 3)]) (by kernel_rfl) (RnB.lit (.fl (.cons (Rn.any _ _ _ _ _ _ (Nat.le_of_ble_eq_true rfl) rfl rfl (by decide)) (.cons (Rn.map _ (Nat.le_of_ble_eq_true rfl)) .nil))))) (.ac (.ac (.cons (At.blk (by kernel_rfl) (RnB.map _ _)) (.nil _))))) (by kernel_rfl) (by kernel_rfl) (by kernel_rfl) (.pp (.cons (Rn.any _ _ _ _ _ _ (Nat.le_of_ble_eq_true rfl) rfl rfl (by decide)) .nil)) (by kernel_rfl)) [0] [0, 1, 2, 3] (a2 := (st 22 [(0, pt 0 0)])) (h2 := (H57_0 p0 p1 p3 r1)) (by kernel_rfl) (TI.dn (NX.sq (TS.sq (TS.sq (TS.rg (TI.ra 4 [0, 12] (st 22 [(0, pt 0 0), (12, .map (some 3))]) ?_))))))))
 refine TO.stamp (k := 3) (kt := 50) (es := List.map (mEnc u50 u50) r1) (by kernel_rfl) fun arr3_4 clock3_4 hkv3_4 hfit3_4 hst3_4 => (TI.range (t := 124) (x := (.tmp 12)) (k := 50) (e := 50) (m := 3) (kt := 50) (arr := arr3_4) (clock := clock3_4) (by kernel_rfl) (by kernel_rfl) (by kernel_rfl) (by kernel_rfl) (h1 := [cl 126 [iv p0, sv 1 p1.length ANY, .map (some 3)], ab 86 e86 p1, ab 50 e50 p3, .mapS 50 arr3_4 clock3_4, .iter 3 clock3_4 #[] clock3_4]) rfl (by kernel_rfl) (TI.rn 0 [0, 13] [0, 1, 2, 3, 4] (st 22 [(0, pt 0 0), (13, pt 4 0)]) [cl 126 [iv p0, sv 1 p1.length ANY, .map (some 3)], ab 86 e86 p1, ab 50 e50 p3, .mapS 50 arr3_4 clock3_4, .iter 3 clock3_4 #[] clock3_4] (TI.dn (NX.sq (TS.bk 0 ?_)))))
 have hX := of_do hF
 clear hF
 obtain ⟨r13, h14, hF⟩ := hX
 refine TS.lp (TL.weak (a2 := (st 22 [(0, pt 0 0), (13, pt 4 0)])) (h2 := [cl 126 [iv p0, sv 1 p1.length ANY, .map (some 3)], ab 86 e86 p1, ab 50 e50 p3, .mapS 50 arr3_4 clock3_4, .iter 3 clock3_4 #[] clock3_4]) (Wk.an [4] (.lt (.fl (.sl (.cons (Rn.map _ (Nat.le_of_ble_eq_true rfl)) .nil))) (.ac (.ac (.cons (At.blk (by kernel_rfl) (RnB.mapS _ _ _)) (.cons (At.blk (by kernel_rfl) (RnB.iter _ _ _ _ (Nat.le_of_ble_eq_true rfl))) (.nil _)))))) [pt 0 0, pt 4 0] (.pp (.pp .nil))) (TL.post (L57l0 p0 p1 p3 r1 arr3_4 clock3_4 hst3_4 hkv3_4 _ #[] () r1 r13 (Nat.lt_succ_self _) (ents_all hkv3_4) (permAll_some h14)) ?_))
 rintro e a1 h1 hp
 rcases r13 with o15 | o16
 · skip
   obtain ⟨rfl, hw⟩ := hp
   refine ⟨(st 22 [(4, .bool false)]), (H57_0 p0 p1 p3 r1), (NX.bkR (NX.sqR ?_)), hw⟩
   have hF := Option.some.inj hF
   subst hF
   exact ⟨.inr rfl, rfl, by kernel_rfl, [], by kernel_rfl⟩
 skip
 obtain ⟨rfl, hw⟩ := hp
 refine ⟨(st 22 []), (H57_0 p0 p1 p3 r1), (NX.bkX (NX.sq (TS.sq (TS.rg (TI.ra 1 [4] (st 22 [(4, .bool true)]) (TI.dn (NX.sq (TS.rt ?_)))))))), hw⟩
 have hF := Option.some.inj hF
 subst hF
 exact ⟨.inr rfl, rfl, by kernel_rfl, [], by kernel_rfl⟩
theorem C57 (k : Nat) : ∀ (p0 : Int) (p1 : (List ((Int × Bool) × (Int × Bool)))) (p2 : (List ((Int × Bool) × (Int × Bool)))) (p3 : (List (Int × Bool))) (r : (Bool × (List ((Int × Bool) × (Int × Bool))))), F57 k p0 p1 p2 p3 = some r → ImpSim Try.prog 57 [pt 0 0, sv 2 p3.length ANY] 3 ((H57_1 p0 p1 p3) ++ [mb 50 u50 u50 p2]) (.bool r.1) ((H57_1 p0 p1 p3) ++ [mb 50 u50 u50 r.2]) := by
 induction k with
 | zero => intro p0 p1 p2 p3 r hF; cases (show (none : Option (Bool × (List ((Int × Bool) × (Int × Bool))))) = some r from hF)
 | succ k ih =>
  intro p0 p1 p2 p3 r hF
  exact ImpSim.of_FinV Try.func57 (c := c57) (by kernel_rfl) (by kernel_rfl) (by kernel_rfl) 3 4 rfl rfl (by decide) (selfOk_cons (fun n hn => .inr (RnB.lit (.fl (.cons (Rn.slice0 _ _ _ _ (Nat.lt_of_lt_of_le (Nat.le_of_ble_eq_true rfl) hn) rfl) (.cons (Rn.map _ (Nat.lt_of_lt_of_le (Nat.le_of_ble_eq_true rfl) hn)) .nil))))) (selfOk_cons (selfOk_flat (accB_flat (fun _ => rfl))) (selfOk_cons (selfOk_flat (accB_flat (fun _ => rfl))) (selfOk_cons (selfOk_flat (.inr rfl)) selfOk_nil)))) [0, 1] (by kernel_rfl) (B57 (F57 k) ih p0 p1 p2 p3 r hF)
noncomputable def c75 : Code := Try.f75.code
def H75_0 (p0 : Int) (p1 : (List ((Int × Bool) × (Int × Bool)))) (r36 : (List ((Int × Bool) × (Int × Bool)))) (v15 : Int) (r44 : (Int × Bool)) : List Blk := [cl 126 [iv p0, sv 1 p1.length ANY, .map (some 2)], ab 86 e86 p1, mb 50 u50 u50 r36, cl 50 [iv 0, .bool false], cl 50 [iv v15, .bool false], .dead, cl 50 [iv r44.1, .bool r44.2]]
def H75_1 (p0 : Int) (p1 : (List ((Int × Bool) × (Int × Bool)))) (v16 : (List ((Int × Bool) × (Int × Bool)))) (v15 : Int) : List Blk := [cl 126 [iv p0, sv 1 p1.length ANY, .map (some 2)], ab 86 e86 p1, mb 50 u50 u50 v16, cl 50 [iv 0, .bool false], cl 50 [iv v15, .bool false], cl 50 [iv v15, .bool false]]
def H75_2 (p0 : Int) (p1 : (List ((Int × Bool) × (Int × Bool)))) (r46 : (List ((Int × Bool) × (Int × Bool)))) (v15 : Int) : List Blk := [cl 126 [iv p0, sv 1 p1.length ANY, .map (some 2)], ab 86 e86 p1, mb 50 u50 u50 r46, cl 50 [iv 0, .bool false], cl 50 [iv v15, .bool false], .dead, .dead]
def H75_3 (p0 : Int) (p1 : (List ((Int × Bool) × (Int × Bool)))) (r36 : (List ((Int × Bool) × (Int × Bool)))) (v15 : Int) : List Blk := [cl 126 [iv p0, sv 1 p1.length ANY, .map (some 2)], ab 86 e86 p1, mb 50 u50 u50 r36, cl 50 [iv 0, .bool false], cl 50 [iv v15, .bool false], .dead]
def H75_4 (p0 : Int) (p1 : (List ((Int × Bool) × (Int × Bool)))) : List Blk := [cl 126 [iv p0, sv 1 p1.length ANY, .map (some 2)], ab 86 e86 p1]
def S75_5 (p0 : Int) (v15 : Int) : CAct := (st 36 [(0, pt 0 0), (2, pt 3 0), (5, pt 4 0), (10, iv p0), (11, iv v15)])
def S75_6 (p0 : Int) (v15 : Int) : CAct := (st 36 [(0, pt 0 0), (2, pt 3 0), (10, iv p0), (11, iv (w64 (v15 + 1)))])
def F75l0 (p0 : Int) (p1 : (List ((Int × Bool) × (Int × Bool)))) (v15 : Int) (v16 : (List ((Int × Bool) × (Int × Bool)))) : Option (((List ((Int × Bool) × (Int × Bool))) × Int) ⊕ (List ((Int × Bool) × (Int × Bool)))) :=
 if decide (v15 < p0) then
  F67 1 p0 p1 v16 ([(v15, false)]) >>= fun r36 =>
  F72 v15 false >>= fun r38 =>
  F68 p0 p1 r36 r38.1 r38.2 >>= fun r40 =>
  if !r40 then
   F75l0 p0 p1 (w64 (v15 + 1)) r36
  else
   F72 v15 false >>= fun r44 =>
   F67 1 p0 p1 r36 ([(r44.1, r44.2)]) >>= fun r46 =>
   F68 p0 p1 r46 v15 false >>= fun r48 =>
   if r48 then
    some (.inl (r46, v15))
   else
    F75l0 p0 p1 (w64 (v15 + 1)) r46
 else
  some (.inr v16)
 partial_fixpoint
def F75b (rec75 : Int → (List ((Int × Bool) × (Int × Bool))) → (List ((Int × Bool) × (Int × Bool))) → Option ((Int × Bool) × Bool × (List ((Int × Bool) × (Int × Bool))))) (p0 : Int) (p1 : (List ((Int × Bool) × (Int × Bool)))) (p2 : (List ((Int × Bool) × (Int × Bool)))) : Option ((Int × Bool) × Bool × (List ((Int × Bool) × (Int × Bool)))) :=
 F75l0 p0 p1 0 p2 >>= fun r50 =>
 match r50 with
 | .inl o52 =>
  some ((o52.2, false), true, o52.1)
 | .inr o53 =>
  some ((0, false), false, o53)
def F75 : Nat → Int → (List ((Int × Bool) × (Int × Bool))) → (List ((Int × Bool) × (Int × Bool))) → Option ((Int × Bool) × Bool × (List ((Int × Bool) × (Int × Bool))))
 | 0 => fun _ _ _ => none
 | k + 1 => F75b (F75 k)
def P75l0 (p0 : Int) (p1 : (List ((Int × Bool) × (Int × Bool)))) (r : (((List ((Int × Bool) × (Int × Bool))) × Int) ⊕ (List ((Int × Bool) × (Int × Bool))))) : Post := fun e a h => (match r with | .inl q0 => e = .ret ∧ Wk Try.prog 2 3 a h (st 36 [(2, pt 3 0), (3, .bool true)]) [cl 126 [iv p0, sv 1 p1.length ANY, .map (some 2)], ab 86 e86 p1, mb 50 u50 u50 q0.1, cl 50 [iv q0.2, .bool false]] | .inr q0 => e = .exit 0 ∧ Wk Try.prog 2 3 a h (st 36 [(2, pt 3 0)]) [cl 126 [iv p0, sv 1 p1.length ANY, .map (some 2)], ab 86 e86 p1, mb 50 u50 u50 q0, cl 50 [iv 0, .bool false]])
theorem L75l0 (p0 : Int) (p1 : (List ((Int × Bool) × (Int × Bool)))) (v15 : Int) (v16 : (List ((Int × Bool) × (Int × Bool)))) (r : (((List ((Int × Bool) × (Int × Bool))) × Int) ⊕ (List ((Int × Bool) × (Int × Bool))))) (hF : F75l0 p0 p1 v15 v16 = some r) : TL Try.prog 2 3 c75.s2.s1.s2.bd.bd (st 36 [(0, pt 0 0), (2, pt 3 0), (10, iv p0), (11, iv v15)]) [cl 126 [iv p0, sv 1 p1.length ANY, .map (some 2)], ab 86 e86 p1, mb 50 u50 u50 v16, cl 50 [iv 0, .bool false]] (P75l0 p0 p1 r) := by
 refine F75l0.partial_correctness p0 p1 (motive := fun v15 v16 r => TL Try.prog 2 3 c75.s2.s1.s2.bd.bd (st 36 [(0, pt 0 0), (2, pt 3 0), (10, iv p0), (11, iv v15)]) [cl 126 [iv p0, sv 1 p1.length ANY, .map (some 2)], ab 86 e86 p1, mb 50 u50 u50 v16, cl 50 [iv 0, .bool false]] (P75l0 p0 p1 r)) ?_ v15 v16 r hF
 clear hF r v15 v16
 intro again ih v15 v16 r hF
 refine TL.round (TS.sq (TS.rg (TI.ra 1 [0, 2, 10, 11, 12] (st 36 [(0, pt 0 0), (2, pt 3 0), (10, iv p0), (11, iv v15), (12, .bool (decide (v15 < p0)))]) (TI.dn (NX.sq (TS.sq ?_))))))
 refine TS.cd (.tmp 12) (decide (v15 < p0)) (fun hc35 => ?_) (fun hc35 => ?_)
 · replace hF := of_pos hF hc35
   refine TS.sk (NX.sq (TS.sq (TS.bk 1 (TS.sq (TS.rg (TI.ra 2 [0, 2, 4, 10, 11] (st 36 [(0, pt 0 0), (2, pt 3 0), (4, iv v15), (10, iv p0), (11, iv v15)]) (TI.dn (NX.sq ?_))))))))
   refine TS.sq (TS.rg (TI.rn 4 [0, 2, 5, 10, 11] [0, 1, 2, 3, 4] (S75_5 p0 v15) [cl 126 [iv p0, sv 1 p1.length ANY, .map (some 2)], ab 86 e86 p1, mb 50 u50 u50 v16, cl 50 [iv 0, .bool false], cl 50 [iv v15, .bool false]] (TI.dn (NX.sq (TS.sq ?_)))))
   have hX := of_do hF
   clear hF
   obtain ⟨r36, h37, hF⟩ := hX
   refine TS.rg (TI.rn 3 [0, 2, 5, 10, 11, 16, 18] [0, 1, 2, 3, 4, 5] (st 36 [(0, pt 0 0), (2, pt 3 0), (5, pt 4 0), (10, iv p0), (11, iv v15), (16, pt 0 0), (18, sv 5 1 1)]) (H75_1 p0 p1 v16 v15) (TI.icallM (g := 67) (args := [pt 0 0, sv 5 1 1]) (v := .tuple ⟨[]⟩) (by kernel_rfl) (ImpSim.frameB (n := 4) (h := (H75_1 p0 p1 v16 v15)) (ro := [cl 126 [iv p0, sv 1 p1.length ANY, .map (some 3)], ab 86 e86 p1, accB 50 (List.length ([(v15, false)])) (List.flatMap e50 ([(v15, false)]))]) (wr := [mb 50 u50 u50 v16]) (wr' := [mb 50 u50 u50 r36]) (fun i => List.getD [(0, 0), (1, 0), (5, 0), (2, 0)] i (0, 0)) (C67 1 _ _ _ _ _ h37) rfl rfl (.cons (At.blk (b1 := cl 126 [iv p0, sv 1 p1.length ANY, .map (some 2)]) (by kernel_rfl) (RnB.lit (.fl (.cons (Rn.any _ _ _ _ _ _ (Nat.le_of_ble_eq_true rfl) rfl rfl (by decide)) (.cons (Rn.map _ (Nat.le_of_ble_eq_true rfl)) .nil))))) (.ac (.cons (At.accU (by kernel_rfl) rfl (fun _ => rfl)) (.cons (At.blk (by kernel_rfl) (RnB.map _ _)) (.nil _))))) (by kernel_rfl) (by kernel_rfl) (by kernel_rfl) (.pp (.cons (Rn.any _ _ _ _ _ _ (Nat.le_of_ble_eq_true rfl) rfl rfl (by decide)) .nil)) (by kernel_rfl)) [0, 2, 5, 10, 11] [0, 1, 2, 3, 4] (a2 := (S75_5 p0 v15)) (h2 := (H75_3 p0 p1 r36 v15)) (by kernel_rfl) (TI.dn (NX.sq (TS.sq (TS.sq ?_))))))
   have hX := of_do hF
   clear hF
   obtain ⟨r38, h39, hF⟩ := hX
   have hX := of_do hF
   clear hF
   obtain ⟨r40, h41, hF⟩ := hX
   refine TS.rg (TI.ra 2 [0, 2, 5, 10, 11, 20, 21] (st 36 [(0, pt 0 0), (2, pt 3 0), (5, pt 4 0), (10, iv p0), (11, iv v15), (20, pt 0 0), (21, ag [iv v15, .bool false])]) (TI.cm (PureSim.ak (C72 _ _ _ h39)) [0, 2, 5, 10, 11, 20, 22] [0, 1, 2, 3, 4] (st 36 [(0, pt 0 0), (2, pt 3 0), (5, pt 4 0), (10, iv p0), (11, iv v15), (20, pt 0 0), (22, ag [iv r38.1, .bool r38.2])]) (H75_3 p0 p1 r36 v15) (TI.cp 68 [pt 0 0, ag [iv r38.1, .bool r38.2]] (.bool r40) [] (PureSim.ren (hc := [cl 126 [iv p0, sv 1 p1.length ANY, .map (some 2)], ab 86 e86 p1, mb 50 u50 u50 r36]) (fun i => List.getD [(0, 0), (1, 0), (2, 0)] i (0, 0)) (C68 _ _ _ _ _ _ h41) (.cons (At.blk (b1 := cl 126 [iv p0, sv 1 p1.length ANY, .map (some 2)]) (by kernel_rfl) (RnB.lit (.fl (.cons (Rn.any _ _ _ _ _ _ (Nat.le_of_ble_eq_true rfl) rfl rfl (by decide)) (.cons (Rn.map _ (Nat.le_of_ble_eq_true rfl)) .nil))))) (.ac (.cons (At.blk (by kernel_rfl) (RnB.map _ _)) (.nil _)))) (.pp (.fl .nil)) (.flat (by kernel_rfl)) newflat_nil) (TI.ra 1 [0, 2, 5, 10, 11, 24] (st 36 [(0, pt 0 0), (2, pt 3 0), (5, pt 4 0), (10, iv p0), (11, iv v15), (24, .bool (!r40))]) (TI.dn (NX.sq ?_))))))
   refine TS.cd (.tmp 24) (!r40) (fun hc43 => ?_) (fun hc43 => ?_)
   · replace hF := of_pos hF hc43
     refine TS.ex 1 (NX.sqX (NX.bkX (NX.sq (TS.rg (TI.rn 2 [0, 2, 10, 11] [0, 1, 2, 3] (S75_6 p0 v15) [cl 126 [iv p0, sv 1 p1.length ANY, .map (some 2)], ab 86 e86 p1, mb 50 u50 u50 r36, cl 50 [iv 0, .bool false], .dead, .dead] (TI.dn ?_))))))
     exact Rd.again (a2 := (S75_6 p0 v15)) (h2 := [cl 126 [iv p0, sv 1 p1.length ANY, .map (some 2)], ab 86 e86 p1, mb 50 u50 u50 r36, cl 50 [iv 0, .bool false]]) (Wk.an [3] (.lt (.fl (.sl (.cons (Rn.map _ (Nat.le_of_ble_eq_true rfl)) .nil))) (.ac (.cons (At.blk (by kernel_rfl) (RnB.map _ _)) (.lt (.fl (.fl .nil)) (.nil _))))) [pt 0 0, pt 3 0, iv p0, iv (w64 (v15 + 1))] (.pp (.pp (.fl (.fl .nil))))) (ih (w64 (v15 + 1)) r36 _ hF)
   replace hF := of_neg hF hc43
   refine TS.sk (NX.sq (TS.sq ?_))
   have hX := of_do hF
   clear hF
   obtain ⟨r44, h45, hF⟩ := hX
   have hX := of_do hF
   clear hF
   obtain ⟨r46, h47, hF⟩ := hX
   refine TS.rg (TI.ra 2 [0, 2, 5, 10, 11, 25, 26] (st 36 [(0, pt 0 0), (2, pt 3 0), (5, pt 4 0), (10, iv p0), (11, iv v15), (25, pt 0 0), (26, ag [iv v15, .bool false])]) (TI.cf (C72 _ _ _ h45) (TI.rn 1 [0, 2, 5, 10, 11, 25, 28] [0, 1, 2, 3, 4, 6] (st 36 [(0, pt 0 0), (2, pt 3 0), (5, pt 4 0), (10, iv p0), (11, iv v15), (25, pt 0 0), (28, sv 6 1 1)]) (H75_0 p0 p1 r36 v15 r44) (TI.icallM (g := 67) (args := [pt 0 0, sv 6 1 1]) (v := .tuple ⟨[]⟩) (by kernel_rfl) (ImpSim.frameB (n := 4) (h := (H75_0 p0 p1 r36 v15 r44)) (ro := [cl 126 [iv p0, sv 1 p1.length ANY, .map (some 3)], ab 86 e86 p1, accB 50 (List.length ([(r44.1, r44.2)])) (List.flatMap e50 ([(r44.1, r44.2)]))]) (wr := [mb 50 u50 u50 r36]) (wr' := [mb 50 u50 u50 r46]) (fun i => List.getD [(0, 0), (1, 0), (6, 0), (2, 0)] i (0, 0)) (C67 1 _ _ _ _ _ h47) rfl rfl (.cons (At.blk (b1 := cl 126 [iv p0, sv 1 p1.length ANY, .map (some 2)]) (by kernel_rfl) (RnB.lit (.fl (.cons (Rn.any _ _ _ _ _ _ (Nat.le_of_ble_eq_true rfl) rfl rfl (by decide)) (.cons (Rn.map _ (Nat.le_of_ble_eq_true rfl)) .nil))))) (.ac (.cons (At.accU (by kernel_rfl) rfl (fun _ => rfl)) (.cons (At.blk (by kernel_rfl) (RnB.map _ _)) (.nil _))))) (by kernel_rfl) (by kernel_rfl) (by kernel_rfl) (.pp (.cons (Rn.any _ _ _ _ _ _ (Nat.le_of_ble_eq_true rfl) rfl rfl (by decide)) .nil)) (by kernel_rfl)) [0, 2, 5, 10, 11] [0, 1, 2, 3, 4] (a2 := (S75_5 p0 v15)) (h2 := (H75_2 p0 p1 r46 v15)) (by kernel_rfl) (TI.dn (NX.sq (TS.sq ?_)))))))
   have hX := of_do hF
   clear hF
   obtain ⟨r48, h49, hF⟩ := hX
   refine TS.rg (TI.ra 2 [0, 2, 5, 10, 11, 30, 31] (st 36 [(0, pt 0 0), (2, pt 3 0), (5, pt 4 0), (10, iv p0), (11, iv v15), (30, pt 0 0), (31, ag [iv v15, .bool false])]) (TI.callM (g := 68) (args := [pt 0 0, ag [iv v15, .bool false]]) (v := .bool r48) (new := []) (by kernel_rfl) (PureSim.ren (hc := [cl 126 [iv p0, sv 1 p1.length ANY, .map (some 2)], ab 86 e86 p1, mb 50 u50 u50 r46]) (fun i => List.getD [(0, 0), (1, 0), (2, 0)] i (0, 0)) (C68 _ _ _ _ _ _ h49) (.cons (At.blk (b1 := cl 126 [iv p0, sv 1 p1.length ANY, .map (some 2)]) (by kernel_rfl) (RnB.lit (.fl (.cons (Rn.any _ _ _ _ _ _ (Nat.le_of_ble_eq_true rfl) rfl rfl (by decide)) (.cons (Rn.map _ (Nat.le_of_ble_eq_true rfl)) .nil))))) (.ac (.cons (At.blk (by kernel_rfl) (RnB.map _ _)) (.nil _)))) (.pp (.fl .nil)) (.flat (by kernel_rfl)) newflat_nil) [0, 2, 5, 10, 11, 32] [0, 1, 2, 3, 4] (a2 := (st 36 [(0, pt 0 0), (2, pt 3 0), (5, pt 4 0), (10, iv p0), (11, iv v15), (32, .bool r48)])) (h2 := (H75_2 p0 p1 r46 v15)) (by kernel_rfl) (TI.dn (NX.sq ?_))))
   cases r48 with
   | true =>
    replace hF := of_pos hF rfl
    refine TS.cdT (.tmp 32) (TS.sq (TS.rg (TI.rn 3 [2, 3] [0, 1, 2, 3] (st 36 [(2, pt 3 0), (3, .bool true)]) [cl 126 [iv p0, sv 1 p1.length ANY, .map (some 2)], ab 86 e86 p1, mb 50 u50 u50 r46, cl 50 [iv v15, .bool false], .dead, .dead, .dead] (TI.dn (NX.sq (TS.rt (NX.bkR (NX.sqR ?_))))))))
    have hF := Option.some.inj hF
    subst hF
    exact Rd.out (e := .ret) (by intro h; cases h) (And.intro rfl (Wk.an [3] (.lt (.fl (.sl (.cons (Rn.map _ (Nat.le_of_ble_eq_true rfl)) .nil))) (.ac (.cons (At.blk (by kernel_rfl) (RnB.map _ _)) (.lt (.fl (.fl .nil)) (.nil _))))) [pt 3 0, .bool true] (.pp (.fl .nil))))
   | false =>
    replace hF := of_neg hF rfl
    refine TS.cdF (.tmp 32) (TS.sk (NX.bk (NX.sq (TS.rg (TI.rn 2 [0, 2, 10, 11] [0, 1, 2, 3] (S75_6 p0 v15) [cl 126 [iv p0, sv 1 p1.length ANY, .map (some 2)], ab 86 e86 p1, mb 50 u50 u50 r46, cl 50 [iv 0, .bool false], .dead, .dead, .dead] (TI.dn ?_))))))
    exact Rd.again (a2 := (S75_6 p0 v15)) (h2 := [cl 126 [iv p0, sv 1 p1.length ANY, .map (some 2)], ab 86 e86 p1, mb 50 u50 u50 r46, cl 50 [iv 0, .bool false]]) (Wk.an [3] (.lt (.fl (.sl (.cons (Rn.map _ (Nat.le_of_ble_eq_true rfl)) .nil))) (.ac (.cons (At.blk (by kernel_rfl) (RnB.map _ _)) (.lt (.fl (.fl .nil)) (.nil _))))) [pt 0 0, pt 3 0, iv p0, iv (w64 (v15 + 1))] (.pp (.pp (.fl (.fl .nil))))) (ih (w64 (v15 + 1)) r46 _ hF)
 replace hF := of_neg hF hc35
 refine TS.ex 0 (NX.sqX ?_)
 have hF := Option.some.inj hF
 subst hF
 exact Rd.out (e := .exit 0) (by intro h; cases h) (And.intro rfl (Wk.an [3] (.lt (.fl (.sl (.cons (Rn.map _ (Nat.le_of_ble_eq_true rfl)) .nil))) (.ac (.cons (At.blk (by kernel_rfl) (RnB.map _ _)) (.lt (.fl (.fl .nil)) (.nil _))))) [pt 3 0] (.pp .nil)))
theorem B75 (rec75 : Int → (List ((Int × Bool) × (Int × Bool))) → (List ((Int × Bool) × (Int × Bool))) → Option ((Int × Bool) × Bool × (List ((Int × Bool) × (Int × Bool))))) (hrec75 : ∀ (p0 : Int) (p1 : (List ((Int × Bool) × (Int × Bool)))) (p2 : (List ((Int × Bool) × (Int × Bool)))) (r : ((Int × Bool) × Bool × (List ((Int × Bool) × (Int × Bool))))), rec75 p0 p1 p2 = some r → ImpSim Try.prog 75 [pt 0 0] 2 ((H75_4 p0 p1) ++ [mb 50 u50 u50 p2]) (.tuple ⟨[ag [iv r.1.1, .bool r.1.2], .bool r.2.1]⟩) ((H75_4 p0 p1) ++ [mb 50 u50 u50 r.2.2])) (p0 : Int) (p1 : (List ((Int × Bool) × (Int × Bool)))) (p2 : (List ((Int × Bool) × (Int × Bool)))) (r : ((Int × Bool) × Bool × (List ((Int × Bool) × (Int × Bool))))) (hF : F75b rec75 p0 p1 p2 = some r) : TS Try.prog 2 3 c75 (st 36 [(0, pt 0 0)]) [cl 126 [iv p0, sv 1 p1.length ANY, .map (some 2)], ab 86 e86 p1, mb 50 u50 u50 p2] (NX Try.prog 2 3 [] (ImpFinV Try.prog Try.f75 (.tuple ⟨[ag [iv r.1.1, .bool r.1.2], .bool r.2.1]⟩) [cl 126 [iv p0, sv 1 p1.length ANY, .map (some 2)], ab 86 e86 p1, mb 50 u50 u50 r.2.2])) := by
 unfold F75b at hF
 refine TS.sq (TS.rg (TI.rn 2 [0, 2] [0, 1, 2, 3] (st 36 [(0, pt 0 0), (2, pt 3 0)]) [cl 126 [iv p0, sv 1 p1.length ANY, .map (some 2)], ab 86 e86 p1, mb 50 u50 u50 p2, cl 50 [iv 0, .bool false]] (TI.dn (NX.sq (TS.sq (TS.sq (TS.rg (TI.ra 6 [0, 2, 10, 11] (st 36 [(0, pt 0 0), (2, pt 3 0), (10, iv p0), (11, iv 0)]) ?_))))))))
 refine TI.dn (NX.sq (TS.bk 0 ?_))
 have hX := of_do hF
 clear hF
 obtain ⟨r50, h51, hF⟩ := hX
 refine TS.lp (TL.weak (a2 := (st 36 [(0, pt 0 0), (2, pt 3 0), (10, iv p0), (11, iv 0)])) (h2 := [cl 126 [iv p0, sv 1 p1.length ANY, .map (some 2)], ab 86 e86 p1, mb 50 u50 u50 p2, cl 50 [iv 0, .bool false]]) (Wk.an [3] (.lt (.fl (.sl (.cons (Rn.map _ (Nat.le_of_ble_eq_true rfl)) .nil))) (.ac (.cons (At.blk (by kernel_rfl) (RnB.map _ _)) (.lt (.fl (.fl .nil)) (.nil _))))) [pt 0 0, pt 3 0, iv p0, iv 0] (.pp (.pp (.fl (.fl .nil))))) (TL.post (L75l0 p0 p1 0 p2 r50 h51) ?_))
 rintro e a1 h1 hp
 rcases r50 with o52 | o53
 · skip
   obtain ⟨rfl, hw⟩ := hp
   refine ⟨(st 36 [(2, pt 3 0), (3, .bool true)]), [cl 126 [iv p0, sv 1 p1.length ANY, .map (some 2)], ab 86 e86 p1, mb 50 u50 u50 o52.1, cl 50 [iv o52.2, .bool false]], (NX.bkR (NX.sqR ?_)), hw⟩
   have hF := Option.some.inj hF
   subst hF
   exact ⟨.inr rfl, rfl, by kernel_rfl, [cl 50 [iv o52.2, .bool false]], by kernel_rfl⟩
 skip
 obtain ⟨rfl, hw⟩ := hp
 refine ⟨(st 36 [(2, pt 3 0)]), [cl 126 [iv p0, sv 1 p1.length ANY, .map (some 2)], ab 86 e86 p1, mb 50 u50 u50 o53, cl 50 [iv 0, .bool false]], (NX.bkX (NX.sq (TS.sq (TS.rg (TI.ra 3 [2, 3] (st 36 [(2, pt 3 0), (3, .bool false)]) (TI.dn (NX.sq (TS.rt ?_)))))))), hw⟩
 have hF := Option.some.inj hF
 subst hF
 exact ⟨.inr rfl, rfl, by kernel_rfl, [cl 50 [iv 0, .bool false]], by kernel_rfl⟩
theorem C75 (k : Nat) : ∀ (p0 : Int) (p1 : (List ((Int × Bool) × (Int × Bool)))) (p2 : (List ((Int × Bool) × (Int × Bool)))) (r : ((Int × Bool) × Bool × (List ((Int × Bool) × (Int × Bool))))), F75 k p0 p1 p2 = some r → ImpSim Try.prog 75 [pt 0 0] 2 ((H75_4 p0 p1) ++ [mb 50 u50 u50 p2]) (.tuple ⟨[ag [iv r.1.1, .bool r.1.2], .bool r.2.1]⟩) ((H75_4 p0 p1) ++ [mb 50 u50 u50 r.2.2]) := by
 induction k with
 | zero => intro p0 p1 p2 r hF; cases (show (none : Option ((Int × Bool) × Bool × (List ((Int × Bool) × (Int × Bool))))) = some r from hF)
 | succ k ih =>
  intro p0 p1 p2 r hF
  exact ImpSim.of_FinV Try.func75 (c := c75) (by kernel_rfl) (by kernel_rfl) (by kernel_rfl) 2 3 rfl rfl (by decide) (selfOk_cons (fun n hn => .inr (RnB.lit (.fl (.cons (Rn.slice0 _ _ _ _ (Nat.lt_of_lt_of_le (Nat.le_of_ble_eq_true rfl) hn) rfl) (.cons (Rn.map _ (Nat.lt_of_lt_of_le (Nat.le_of_ble_eq_true rfl) hn)) .nil))))) (selfOk_cons (selfOk_flat (accB_flat (fun _ => rfl))) (selfOk_cons (selfOk_flat (.inr rfl)) selfOk_nil))) [0] (by kernel_rfl) (B75 (F75 k) ih p0 p1 p2 r hF)
noncomputable def c81 : Code := Try.f81.code
def H81_0 (p2 : Int) (p3 : (List ((Int × Bool) × (Int × Bool)))) (p0 : Int) (p1 : Bool) : List Blk := [cl 24 [iv p2, sv 1 p3.length ANY], ab 86 e86 p3, cl 50 [iv p0, .bool p1]]
def H81_1 (p2 : Int) (p3 : (List ((Int × Bool) × (Int × Bool)))) : List Blk := [cl 24 [iv p2, sv 1 p3.length ANY], ab 86 e86 p3, .dead]
def F81 (p0 : Int) (p1 : Bool) (p2 : Int) (p3 : (List ((Int × Bool) × (Int × Bool)))) : Option Bool :=
 (
  if decide (p0 < 0) then
   some (true)
  else
   some (decide (p0 ≥ p2))
 : Option Bool) >>= fun m2 =>
 some m2
def V81 (b : Nat) (r : Bool) : Value := .bool r
def N81 (b : Nat) (r : Bool) : List Blk := []
theorem B81 (p0 : Int) (p1 : Bool) (p2 : Int) (p3 : (List ((Int × Bool) × (Int × Bool)))) (r : Bool) (hF : F81 p0 p1 p2 p3 = some r) : TS Try.prog 2 2 c81 (st 14 [(0, ag [iv p0, .bool p1]), (1, pt 0 0)]) [cl 24 [iv p2, sv 1 p3.length ANY], ab 86 e86 p3] (NX Try.prog 2 2 [] (FinP Try.prog Try.f81 2 (V81 2 r) (N81 2 r))) := by
 unfold F81 at hF
 refine TS.sq (TS.rg (TI.rn 2 [1, 2] [0, 1, 2] (st 14 [(1, pt 0 0), (2, pt 2 0)]) (H81_0 p2 p3 p0 p1) (TI.dn (NX.sq (TS.sq ?_)))))
 have hX := of_do hF
 clear hF
 obtain ⟨m2, hm3, hF⟩ := hX
 have hK : NX Try.prog 2 2 [.sq c81.s2.s2] (FinP Try.prog Try.f81 2 (V81 2 r) (N81 2 r)) .normal (st 14 [(3, .bool m2)]) (H81_1 p2 p3) := by
  refine NX.sq (TS.rt ?_)
  have hF := Option.some.inj hF
  subst hF
  exact ⟨.inr rfl, rfl, .bool m2, by kernel_rfl, WkV.flat0 (by kernel_rfl) (Nat.le_of_ble_eq_true rfl)⟩
 rcases Bool.eq_false_or_eq_true (decide (p0 < 0)) with hc1 | hc1
 · replace hm3 := of_pos hm3 hc1
   have hm3 := Option.some.inj hm3
   subst hm3
   exact TS.rg (TI.ra 2 [1, 2, 5] (st 14 [(1, pt 0 0), (2, pt 2 0), (5, iv p0)]) (TI.o { val := .bool true } (q_conv (e := decide (p0 < 0)) (b := true) (by kernel_rfl) hc1) [1, 2, 6] [0, 1, 2] (st 14 [(1, pt 0 0), (2, pt 2 0), (6, .bool true)]) (H81_0 p2 p3 p0 p1) (TI.rn 8 [3] [0, 1] (st 14 [(3, .bool true)]) (H81_1 p2 p3) (TI.dn hK))))
 replace hm3 := of_neg hm3 hc1
 have hm3 := Option.some.inj hm3
 subst hm3
 exact TS.rg (TI.ra 2 [1, 2, 5] (st 14 [(1, pt 0 0), (2, pt 2 0), (5, iv p0)]) (TI.o { val := .bool false } (q_conv (e := decide (p0 < 0)) (b := false) (by kernel_rfl) hc1) [1, 2, 6] [0, 1, 2] (st 14 [(1, pt 0 0), (2, pt 2 0), (6, .bool false)]) (H81_0 p2 p3 p0 p1) (TI.rn 8 [3] [0, 1] (st 14 [(3, .bool (decide (p0 ≥ p2)))]) (H81_1 p2 p3) (TI.dn hK))))
theorem C81 (p0 : Int) (p1 : Bool) (p2 : Int) (p3 : (List ((Int × Bool) × (Int × Bool)))) (r : Bool) (hF : F81 p0 p1 p2 p3 = some r) : PureSim Try.prog 81 [ag [iv p0, .bool p1], pt 0 0] [cl 24 [iv p2, sv 1 p3.length ANY], ab 86 e86 p3] (V81 2 r) (N81 2 r) :=
 PureSim.of_Fin Try.func81 (c := c81) (by kernel_rfl) (by kernel_rfl) 2 rfl [0, 1] [0, 1] (by kernel_rfl) (B81 p0 p1 p2 p3 r hF)
noncomputable def c87 : Code := Try.f87.code
def H87_0 (p0 : (List (Int × Bool))) (p1 : Int) (p2 : (List ((Int × Bool) × (Int × Bool)))) : List Blk := [ab 50 e50 p0, cl 24 [iv p1, sv 2 p2.length ANY], ab 86 e86 p2]
def S87_1 (p0 : (List (Int × Bool))) (v7 : Int) : CAct := (st 19 [(0, sv 0 p0.length ANY), (1, .func (.func 81) ⟨[]⟩ ⟨[pt 1 0]⟩), (7, iv (p0.length : Int)), (8, iv (w64 (v7 + 1)))])
def S87_2 (p0 : (List (Int × Bool))) (v7 : Int) : CAct := (st 19 [(0, sv 0 p0.length ANY), (1, .func (.func 81) ⟨[]⟩ ⟨[pt 1 0]⟩), (7, iv (p0.length : Int)), (8, iv v7)])
def S87_3 (p0 : (List (Int × Bool))) : CAct := (st 19 [(0, sv 0 p0.length ANY), (1, .func (.func 81) ⟨[]⟩ ⟨[pt 1 0]⟩), (7, iv (p0.length : Int)), (8, iv 0)])
def F87l0 (p0 : (List (Int × Bool))) (p1 : Int) (p2 : (List ((Int × Bool) × (Int × Bool)))) (v7 : Int) : Option (Int ⊕ Unit) :=
 if decide (v7 < (p0.length : Int)) then
  if (0 : Int) ≤ v7 ∧ v7 < (p0.length : Int) then
   some (List.getD p0 (Int.toNat v7) (0, false)) >>= fun o18 =>
   F81 o18.1 o18.2 p1 p2 >>= fun r20 =>
   if r20 then
    some (.inl v7)
   else
    F87l0 p0 p1 p2 (w64 (v7 + 1))
  else none
 else
  some (.inr ())
 partial_fixpoint
def F87 (p0 : (List (Int × Bool))) (p1 : Int) (p2 : (List ((Int × Bool) × (Int × Bool)))) : Option Int :=
 F87l0 p0 p1 p2 0 >>= fun r22 =>
 match r22 with
 | .inl o24 =>
  some o24
 | .inr o25 =>
  some (-1)
def V87 (b : Nat) (r : Int) : Value := iv r
def N87 (b : Nat) (r : Int) : List Blk := []
def P87l0 (p0 : (List (Int × Bool))) (p1 : Int) (p2 : (List ((Int × Bool) × (Int × Bool)))) (r : (Int ⊕ Unit)) : Post := fun e a h => (match r with | .inl q0 => e = .ret ∧ Wk Try.prog 3 3 a h (st 19 [(4, iv q0)]) (H87_0 p0 p1 p2) | .inr q0 => e = .exit 0 ∧ Wk Try.prog 3 3 a h (st 19 []) (H87_0 p0 p1 p2))
theorem L87l0 (p0 : (List (Int × Bool))) (p1 : Int) (p2 : (List ((Int × Bool) × (Int × Bool)))) (v7 : Int) (r : (Int ⊕ Unit)) (hF : F87l0 p0 p1 p2 v7 = some r) : TL Try.prog 3 3 c87.s2.s1.s2.bd.bd (S87_2 p0 v7) (H87_0 p0 p1 p2) (P87l0 p0 p1 p2 r) := by
 refine F87l0.partial_correctness p0 p1 p2 (motive := fun v7 r => TL Try.prog 3 3 c87.s2.s1.s2.bd.bd (S87_2 p0 v7) (H87_0 p0 p1 p2) (P87l0 p0 p1 p2 r)) ?_ v7 r hF
 clear hF r v7
 intro again ih v7 r hF
 refine TL.round (TS.sq (TS.rg (TI.ra 1 [0, 1, 7, 8, 9] (st 19 [(0, sv 0 p0.length ANY), (1, .func (.func 81) ⟨[]⟩ ⟨[pt 1 0]⟩), (7, iv (p0.length : Int)), (8, iv v7), (9, .bool (decide (v7 < (p0.length : Int))))]) (TI.dn (NX.sq (TS.sq ?_))))))
 refine TS.cd (.tmp 9) (decide (v7 < (p0.length : Int))) (fun hc16 => ?_) (fun hc16 => ?_)
 · replace hF := of_pos hF hc16
   refine TS.sk (NX.sq (TS.sq (TS.bk 1 (TS.sq (TS.rg (TI.ra 2 [0, 1, 5, 7, 8] (st 19 [(0, sv 0 p0.length ANY), (1, .func (.func 81) ⟨[]⟩ ⟨[pt 1 0]⟩), (5, iv v7), (7, iv (p0.length : Int)), (8, iv v7)]) (TI.dn (NX.sq ?_))))))))
   refine TS.sq ?_
   have hX := of_guard hF
   clear hF
   obtain ⟨hg17, hF⟩ := hX
   have hX := of_do hF
   clear hF
   obtain ⟨o18, h19, hF⟩ := hX
   replace h19 := Option.some.inj h19
   have hX := of_do hF
   clear hF
   obtain ⟨r20, h21, hF⟩ := hX
   refine TS.rg (TI.ra 3 [0, 1, 5, 7, 8, 11, 12, 13] (st 19 [(0, sv 0 p0.length ANY), (1, .func (.func 81) ⟨[]⟩ ⟨[pt 1 0]⟩), (5, iv v7), (7, iv (p0.length : Int)), (8, iv v7), (11, .func (.func 81) ⟨[]⟩ ⟨[pt 1 0]⟩), (12, sv 0 p0.length ANY), (13, iv v7)]) (TI.o { val := .pointer (some ⟨0, 0 + (Int.toNat v7) * 2, none⟩) } (q_ixS 0 0 ((Int.toNat v7) * 2) (by kernel_rfl) hg17) [0, 1, 5, 7, 8, 11, 14] [0, 1, 2] (st 19 [(0, sv 0 p0.length ANY), (1, .func (.func 81) ⟨[]⟩ ⟨[pt 1 0]⟩), (5, iv v7), (7, iv (p0.length : Int)), (8, iv v7), (11, .func (.func 81) ⟨[]⟩ ⟨[pt 1 0]⟩), (14, .pointer (some ⟨0, 0 + (Int.toNat v7) * 2, none⟩))]) (H87_0 p0 p1 p2) (TI.o { val := ag [iv o18.1, .bool o18.2] } (q_nAa Try.prog (H87_0 p0 p1 p2) 50 0 (0 + (Int.toNat v7) * 2) p0 e50 2 50 (Int.toNat v7) (0, false) h19) [0, 1, 5, 7, 8, 11, 15] [0, 1, 2] (st 19 [(0, sv 0 p0.length ANY), (1, .func (.func 81) ⟨[]⟩ ⟨[pt 1 0]⟩), (5, iv v7), (7, iv (p0.length : Int)), (8, iv v7), (11, .func (.func 81) ⟨[]⟩ ⟨[pt 1 0]⟩), (15, ag [iv o18.1, .bool o18.2])]) (H87_0 p0 p1 p2) (TI.callM (g := 81) (args := [ag [iv o18.1, .bool o18.2], pt 1 0]) (v := .bool r20) (new := []) (by kernel_rfl) (PureSim.ren (hc := [cl 24 [iv p1, sv 1 p2.length ANY], ab 86 e86 p2]) (fun i => List.getD [(1, 0), (2, 0)] i (0, 0)) (C81 _ _ _ _ _ h21) (.cons (At.blk (b1 := cl 24 [iv p1, sv 2 p2.length ANY]) (by kernel_rfl) (RnB.lit (.fl (.cons (Rn.any _ _ _ _ _ _ (Nat.le_of_ble_eq_true rfl) rfl rfl (by decide)) .nil)))) (.ac (.nil _))) (.fl (.pp .nil)) (.flat (by kernel_rfl)) newflat_nil) [0, 1, 5, 7, 8, 16] [0, 1, 2] (a2 := (st 19 [(0, sv 0 p0.length ANY), (1, .func (.func 81) ⟨[]⟩ ⟨[pt 1 0]⟩), (5, iv v7), (7, iv (p0.length : Int)), (8, iv v7), (16, .bool r20)])) (h2 := (H87_0 p0 p1 p2)) (by kernel_rfl) (TI.dn (NX.sq ?_))))))
   cases r20 with
   | true =>
    replace hF := of_pos hF rfl
    refine TS.cdT (.tmp 16) (TS.sq (TS.rg (TI.ra 2 [4] (st 19 [(4, iv v7)]) (TI.dn (NX.sq (TS.rt (NX.bkR (NX.sqR ?_))))))))
    have hF := Option.some.inj hF
    subst hF
    exact Rd.out (e := .ret) (by intro h; cases h) (And.intro rfl (Wk.an [] (.ac (.lt (.fl (.sl .nil)) (.ac (.nil _)))) [iv v7] (.fl .nil)))
   | false =>
    replace hF := of_neg hF rfl
    refine TS.cdF (.tmp 16) (TS.sk (NX.bk (NX.sq (TS.rg (TI.ra 2 [0, 1, 7, 8] (S87_1 p0 v7) (TI.dn ?_))))))
    exact Rd.again (a2 := (S87_1 p0 v7)) (h2 := (H87_0 p0 p1 p2)) (Wk.an [] (.ac (.lt (.fl (.sl .nil)) (.ac (.nil _)))) [sv 0 p0.length ANY, .func (.func 81) ⟨[]⟩ ⟨[pt 1 0]⟩, iv (p0.length : Int), iv (w64 (v7 + 1))] (.sl (.cons (Rn.func' .nil (.pp .nil)) (.fl (.fl .nil))))) (ih (w64 (v7 + 1)) _ hF)
 replace hF := of_neg hF hc16
 refine TS.ex 0 (NX.sqX ?_)
 have hF := Option.some.inj hF
 subst hF
 exact Rd.out (e := .exit 0) (by intro h; cases h) (And.intro rfl (Wk.an [] (.ac (.lt (.fl (.sl .nil)) (.ac (.nil _)))) [] .nil))
theorem B87 (p0 : (List (Int × Bool))) (p1 : Int) (p2 : (List ((Int × Bool) × (Int × Bool)))) (r : Int) (hF : F87 p0 p1 p2 = some r) : TS Try.prog 3 3 c87 (st 19 [(0, sv 0 p0.length ANY), (1, .func (.func 81) ⟨[]⟩ ⟨[pt 1 0]⟩)]) (H87_0 p0 p1 p2) (NX Try.prog 3 3 [] (FinP Try.prog Try.f87 3 (V87 3 r) (N87 3 r))) := by
 unfold F87 at hF
 refine TS.sq (TS.rg (TI.ra 1 [0, 1] (st 19 [(0, sv 0 p0.length ANY), (1, .func (.func 81) ⟨[]⟩ ⟨[pt 1 0]⟩)]) (TI.dn (NX.sq (TS.sq (TS.sq (TS.rg (TI.ra 3 [0, 1, 7, 8] (S87_3 p0) ?_))))))))
 refine TI.dn (NX.sq (TS.bk 0 ?_))
 have hX := of_do hF
 clear hF
 obtain ⟨r22, h23, hF⟩ := hX
 refine TS.lp (TL.weak (a2 := (S87_3 p0)) (h2 := (H87_0 p0 p1 p2)) (Wk.an [] (.ac (.lt (.fl (.sl .nil)) (.ac (.nil _)))) [sv 0 p0.length ANY, .func (.func 81) ⟨[]⟩ ⟨[pt 1 0]⟩, iv (p0.length : Int), iv 0] (.sl (.cons (Rn.func' .nil (.pp .nil)) (.fl (.fl .nil))))) (TL.post (L87l0 p0 p1 p2 0 r22 h23) ?_))
 rintro e a1 h1 hp
 rcases r22 with o24 | o25
 · skip
   obtain ⟨rfl, hw⟩ := hp
   refine ⟨(st 19 [(4, iv o24)]), (H87_0 p0 p1 p2), (NX.bkR (NX.sqR ?_)), hw⟩
   have hF := Option.some.inj hF
   subst hF
   exact ⟨.inr rfl, rfl, iv o24, by kernel_rfl, WkV.flat0 (by kernel_rfl) (Nat.le_of_ble_eq_true rfl)⟩
 skip
 obtain ⟨rfl, hw⟩ := hp
 refine ⟨(st 19 []), (H87_0 p0 p1 p2), (NX.bkX (NX.sq (TS.sq (TS.rg (TI.ra 1 [4] (st 19 [(4, iv (-1))]) (TI.dn (NX.sq (TS.rt ?_)))))))), hw⟩
 have hF := Option.some.inj hF
 subst hF
 exact ⟨.inr rfl, rfl, iv (-1), by kernel_rfl, WkV.flat0 (by kernel_rfl) (Nat.le_of_ble_eq_true rfl)⟩
theorem C87 (p0 : (List (Int × Bool))) (p1 : Int) (p2 : (List ((Int × Bool) × (Int × Bool)))) (r : Int) (hF : F87 p0 p1 p2 = some r) : PureSim Try.prog 87 [sv 0 p0.length ANY, .func (.func 81) ⟨[]⟩ ⟨[pt 1 0]⟩] (H87_0 p0 p1 p2) (V87 3 r) (N87 3 r) :=
 PureSim.of_Fin Try.func87 (c := c87) (by kernel_rfl) (by kernel_rfl) 3 rfl [0, 1] [0, 1, 2] (by kernel_rfl) (B87 p0 p1 p2 r hF)
noncomputable def c80 : Code := Try.f80.code
def H80_0 (p0 : (List (Int × Bool))) (p1 : Int) (p2 : (List ((Int × Bool) × (Int × Bool)))) : List Blk := [ab 50 e50 p0, cl 24 [iv p1, sv 2 p2.length ANY], ab 86 e86 p2]
def F80 (p0 : (List (Int × Bool))) (p1 : Int) (p2 : (List ((Int × Bool) × (Int × Bool)))) : Option Bool :=
 F87 p0 p1 p2 >>= fun r1 =>
 some (decide (r1 ≥ 0))
def V80 (b : Nat) (r : Bool) : Value := .bool r
def N80 (b : Nat) (r : Bool) : List Blk := []
theorem B80 (p0 : (List (Int × Bool))) (p1 : Int) (p2 : (List ((Int × Bool) × (Int × Bool)))) (r : Bool) (hF : F80 p0 p1 p2 = some r) : TS Try.prog 3 3 c80 (st 9 [(0, sv 0 p0.length ANY), (1, .func (.func 81) ⟨[]⟩ ⟨[pt 1 0]⟩)]) (H80_0 p0 p1 p2) (NX Try.prog 3 3 [] (FinP Try.prog Try.f80 3 (V80 3 r) (N80 3 r))) := by
 unfold F80 at hF
 refine TS.sq (TS.rg (TI.ra 1 [0, 1] (st 9 [(0, sv 0 p0.length ANY), (1, .func (.func 81) ⟨[]⟩ ⟨[pt 1 0]⟩)]) (TI.dn (NX.sq (TS.sq ?_)))))
 have hX := of_do hF
 clear hF
 obtain ⟨r1, h2, hF⟩ := hX
 refine TS.rg (TI.ra 2 [5, 6] (st 9 [(5, sv 0 p0.length ANY), (6, .func (.func 81) ⟨[]⟩ ⟨[pt 1 0]⟩)]) (TI.cp 87 [sv 0 p0.length ANY, .func (.func 81) ⟨[]⟩ ⟨[pt 1 0]⟩] (iv r1) [] (PureSim.ren (hc := (H80_0 p0 p1 p2)) (fun i => List.getD [(0, 0), (1, 0), (2, 0)] i (0, 0)) (C87 _ _ _ _ h2) (.ac (.cons (At.blk (b1 := cl 24 [iv p1, sv 2 p2.length ANY]) (by kernel_rfl) (RnB.lit (.fl (.cons (Rn.any _ _ _ _ _ _ (Nat.le_of_ble_eq_true rfl) rfl rfl (by decide)) .nil)))) (.ac (.nil _)))) (.cons (Rn.any _ _ _ _ _ _ (Nat.le_of_ble_eq_true rfl) rfl rfl (by decide)) (.cons (Rn.func' .nil (.pp .nil)) .nil)) (.flat (by kernel_rfl)) newflat_nil) (TI.ra 2 [4] (st 9 [(4, .bool (decide (r1 ≥ 0)))]) (TI.dn (NX.sq (TS.rt ?_))))))
 have hF := Option.some.inj hF
 subst hF
 exact ⟨.inr rfl, rfl, .bool (decide (r1 ≥ 0)), by kernel_rfl, WkV.flat0 (by kernel_rfl) (Nat.le_of_ble_eq_true rfl)⟩
theorem C80 (p0 : (List (Int × Bool))) (p1 : Int) (p2 : (List ((Int × Bool) × (Int × Bool)))) (r : Bool) (hF : F80 p0 p1 p2 = some r) : PureSim Try.prog 80 [sv 0 p0.length ANY, .func (.func 81) ⟨[]⟩ ⟨[pt 1 0]⟩] (H80_0 p0 p1 p2) (V80 3 r) (N80 3 r) :=
 PureSim.of_Fin Try.func80 (c := c80) (by kernel_rfl) (by kernel_rfl) 3 rfl [0, 1] [0, 1, 2] (by kernel_rfl) (B80 p0 p1 p2 r hF)
noncomputable def c64 : Code := Try.f64.code
def F64 (p0 : Int) (p1 : (List ((Int × Bool) × (Int × Bool)))) (p2 : (List (Int × Bool))) : Option Bool :=
 F80 p2 p0 p1 >>= fun r1 =>
 some (!r1)
def V64 (b : Nat) (r : Bool) : Value := .bool r
def N64 (b : Nat) (r : Bool) : List Blk := []
theorem B64 (p0 : Int) (p1 : (List ((Int × Bool) × (Int × Bool)))) (p2 : (List (Int × Bool))) (r : Bool) (hF : F64 p0 p1 p2 = some r) : TS Try.prog 2 2 c64 (st 9 [(0, ag [iv p0, sv 0 p1.length ANY]), (1, sv 1 p2.length ANY)]) [ab 86 e86 p1, ab 50 e50 p2] (NX Try.prog 2 2 [] (FinP Try.prog Try.f64 2 (V64 2 r) (N64 2 r))) := by
 unfold F64 at hF
 refine TS.sq (TS.rg (TI.rn 2 [1, 2] [0, 1, 2] (st 9 [(1, sv 1 p2.length ANY), (2, pt 2 0)]) [ab 86 e86 p1, ab 50 e50 p2, cl 24 [iv p0, sv 0 p1.length ANY]] (TI.dn (NX.sq (TS.sq ?_)))))
 have hX := of_do hF
 clear hF
 obtain ⟨r1, h2, hF⟩ := hX
 refine TS.rg (TI.ra 2 [5, 6] (st 9 [(5, sv 1 p2.length ANY), (6, .func (.func 81) ⟨[]⟩ ⟨[pt 2 0]⟩)]) (TI.cp 80 [sv 1 p2.length ANY, .func (.func 81) ⟨[]⟩ ⟨[pt 2 0]⟩] (.bool r1) [] (PureSim.ren (hc := [ab 50 e50 p2, cl 24 [iv p0, sv 2 p1.length ANY], ab 86 e86 p1]) (fun i => List.getD [(1, 0), (2, 0), (0, 0)] i (0, 0)) (C80 _ _ _ _ h2) (.ac (.cons (At.blk (b1 := cl 24 [iv p0, sv 0 p1.length ANY]) (by kernel_rfl) (RnB.lit (.fl (.cons (Rn.any _ _ _ _ _ _ (Nat.le_of_ble_eq_true rfl) rfl rfl (by decide)) .nil)))) (.ac (.nil _)))) (.cons (Rn.any _ _ _ _ _ _ (Nat.le_of_ble_eq_true rfl) rfl rfl (by decide)) (.cons (Rn.func' .nil (.pp .nil)) .nil)) (.flat (by kernel_rfl)) newflat_nil) (TI.rn 2 [4] [0, 1] (st 9 [(4, .bool (!r1))]) [ab 86 e86 p1, ab 50 e50 p2, .dead] (TI.dn (NX.sq (TS.rt ?_))))))
 have hF := Option.some.inj hF
 subst hF
 exact ⟨.inr rfl, rfl, .bool (!r1), by kernel_rfl, WkV.flat0 (by kernel_rfl) (Nat.le_of_ble_eq_true rfl)⟩
theorem C64 (p0 : Int) (p1 : (List ((Int × Bool) × (Int × Bool)))) (p2 : (List (Int × Bool))) (r : Bool) (hF : F64 p0 p1 p2 = some r) : PureSim Try.prog 64 [ag [iv p0, sv 0 p1.length ANY], sv 1 p2.length ANY] [ab 86 e86 p1, ab 50 e50 p2] (V64 2 r) (N64 2 r) :=
 PureSim.of_Fin Try.func64 (c := c64) (by kernel_rfl) (by kernel_rfl) 2 rfl [0, 1] [0, 1] (by kernel_rfl) (B64 p0 p1 p2 r hF)
noncomputable def c26 : Code := Try.f26.code
def H26_0 (p1 : (List ((Int × Bool) × (Int × Bool)))) (p0 : Int) : List Blk := [ab 86 e86 p1, cl 24 [iv p0, sv 0 p1.length ANY]]
def F26l0 (p0 : Int) (p1 : (List ((Int × Bool) × (Int × Bool)))) (v11 : Int) : Option (Unit ⊕ Unit) :=
 if decide (v11 < (p1.length : Int)) then
  if (0 : Int) ≤ v11 ∧ v11 < (p1.length : Int) then
   some (List.getD p1 (Int.toNat v11) ((0, false), (0, false))) >>= fun o22 =>
   F64 p0 p1 ([(o22.1.1, o22.1.2), (o22.2.1, o22.2.2)]) >>= fun r24 =>
   if !r24 then
    some (.inl ())
   else
    F26l0 p0 p1 (w64 (v11 + 1))
  else none
 else
  some (.inr ())
 partial_fixpoint
def F26 (p0 : Int) (p1 : (List ((Int × Bool) × (Int × Bool)))) : Option Int :=
 (
  if decide (p0 < 1) then
   some (true)
  else
   some (decide (p0 > 24))
 : Option Bool) >>= fun m2 =>
 if m2 then
  some 1
 else
  if decide ((p1.length : Int) > 80) then
   some 3
  else
   F26l0 p0 p1 0 >>= fun r27 =>
   match r27 with
   | .inl o29 =>
    some 6
   | .inr o30 =>
    some 0
def V26 (b : Nat) (r : Int) : Value := iv r
def N26 (b : Nat) (r : Int) : List Blk := []
def P26l0 (p0 : Int) (p1 : (List ((Int × Bool) × (Int × Bool)))) (r : (Unit ⊕ Unit)) : Post := fun e a h => (match r with | .inl q0 => e = .ret ∧ Wk Try.prog 1 1 a h (st 35 [(2, iv 6)]) [ab 86 e86 p1] | .inr q0 => e = .exit 1 ∧ Wk Try.prog 1 1 a h (st 35 []) [ab 86 e86 p1])
theorem L26l0 (p0 : Int) (p1 : (List ((Int × Bool) × (Int × Bool)))) (v11 : Int) (r : (Unit ⊕ Unit)) (hF : F26l0 p0 p1 v11 = some r) : TL Try.prog 1 1 c26.s2.s2.s1.s2.bd.bd (st 35 [(1, pt 1 0), (20, sv 0 p1.length ANY), (21, iv (p1.length : Int)), (22, iv v11)]) (H26_0 p1 p0) (P26l0 p0 p1 r) := by
 refine F26l0.partial_correctness p0 p1 (motive := fun v11 r => TL Try.prog 1 1 c26.s2.s2.s1.s2.bd.bd (st 35 [(1, pt 1 0), (20, sv 0 p1.length ANY), (21, iv (p1.length : Int)), (22, iv v11)]) (H26_0 p1 p0) (P26l0 p0 p1 r)) ?_ v11 r hF
 clear hF r v11
 intro again ih v11 r hF
 refine TL.round (TS.sq (TS.rg (TI.ra 1 [1, 20, 21, 22, 23] (st 35 [(1, pt 1 0), (20, sv 0 p1.length ANY), (21, iv (p1.length : Int)), (22, iv v11), (23, .bool (decide (v11 < (p1.length : Int))))]) (TI.dn (NX.sq (TS.sq ?_))))))
 refine TS.cd (.tmp 23) (decide (v11 < (p1.length : Int))) (fun hc20 => ?_) (fun hc20 => ?_)
 · replace hF := of_pos hF hc20
   refine TS.sk (NX.sq (TS.sq (TS.bk 2 (TS.sq ?_))))
   have hX := of_guard hF
   clear hF
   obtain ⟨hg21, hF⟩ := hX
   have hX := of_do hF
   clear hF
   obtain ⟨o22, h23, hF⟩ := hX
   replace h23 := Option.some.inj h23
   refine TS.rg (TI.o { val := .pointer (some ⟨0, 0 + (Int.toNat v11) * 4, none⟩) } (q_ixS 0 0 ((Int.toNat v11) * 4) (by kernel_rfl) hg21) [1, 20, 21, 22, 24] [0, 1] (st 35 [(1, pt 1 0), (20, sv 0 p1.length ANY), (21, iv (p1.length : Int)), (22, iv v11), (24, .pointer (some ⟨0, 0 + (Int.toNat v11) * 4, none⟩))]) (H26_0 p1 p0) (TI.o { val := ag [iv o22.1.1, .bool o22.1.2, iv o22.2.1, .bool o22.2.2] } (q_nAa Try.prog (H26_0 p1 p0) 86 0 (0 + (Int.toNat v11) * 4) p1 e86 4 86 (Int.toNat v11) ((0, false), (0, false)) h23) [1, 20, 21, 22, 25] [0, 1] (st 35 [(1, pt 1 0), (20, sv 0 p1.length ANY), (21, iv (p1.length : Int)), (22, iv v11), (25, ag [iv o22.1.1, .bool o22.1.2, iv o22.2.1, .bool o22.2.2])]) (H26_0 p1 p0) (TI.rn 2 [1, 4, 20, 21, 22] [0, 1, 2] (st 35 [(1, pt 1 0), (4, pt 2 0), (20, sv 0 p1.length ANY), (21, iv (p1.length : Int)), (22, iv v11)]) [ab 86 e86 p1, cl 24 [iv p0, sv 0 p1.length ANY], cl 86 [iv o22.1.1, .bool o22.1.2, iv o22.2.1, .bool o22.2.2]] (TI.dn (NX.sq (TS.sq ?_))))))
   have hX := of_do hF
   clear hF
   obtain ⟨r24, h25, hF⟩ := hX
   refine TS.rg (TI.rn 6 [1, 20, 21, 22, 26, 31] [0, 1, 3] (st 35 [(1, pt 1 0), (20, sv 0 p1.length ANY), (21, iv (p1.length : Int)), (22, iv v11), (26, ag [iv p0, sv 0 p1.length ANY]), (31, sv 3 2 2)]) [ab 86 e86 p1, cl 24 [iv p0, sv 0 p1.length ANY], .dead, cl 50 [iv o22.1.1, .bool o22.1.2, iv o22.2.1, .bool o22.2.2]] (TI.cp 64 [ag [iv p0, sv 0 p1.length ANY], sv 3 2 2] (.bool r24) [] (PureSim.ren (hc := [ab 86 e86 p1, accB 50 (List.length ([(o22.1.1, o22.1.2), (o22.2.1, o22.2.2)])) (List.flatMap e50 ([(o22.1.1, o22.1.2), (o22.2.1, o22.2.2)]))]) (fun i => List.getD [(0, 0), (3, 0)] i (0, 0)) (C64 _ _ _ _ h25) (.ac (.cons (At.accU (by kernel_rfl) rfl (fun _ => rfl)) (.nil _))) (.cons (Rn.agg' (.fl (.cons (Rn.any _ _ _ _ _ _ (Nat.le_of_ble_eq_true rfl) rfl rfl (by decide)) .nil))) (.cons (Rn.any _ _ _ _ _ _ (Nat.le_of_ble_eq_true rfl) rfl rfl (by decide)) .nil)) (.flat (by kernel_rfl)) newflat_nil) (TI.rn 1 [1, 20, 21, 22, 33] [0, 1] (st 35 [(1, pt 1 0), (20, sv 0 p1.length ANY), (21, iv (p1.length : Int)), (22, iv v11), (33, .bool (!r24))]) [ab 86 e86 p1, cl 24 [iv p0, sv 0 p1.length ANY], .dead, .dead] (TI.dn (NX.sq ?_)))))
   refine TS.cd (.tmp 33) (!r24) (fun hc26 => ?_) (fun hc26 => ?_)
   · replace hF := of_pos hF hc26
     refine TS.sq (TS.rg (TI.rn 1 [2] [0] (st 35 [(2, iv 6)]) [ab 86 e86 p1, .dead, .dead, .dead] (TI.dn (NX.sq (TS.rt (NX.bkR (NX.sqR ?_)))))))
     have hF := Option.some.inj hF
     subst hF
     exact Rd.out (e := .ret) (by intro h; cases h) (And.intro rfl (Wk.an [] (.ac (.nil _)) [iv 6] (.fl .nil)))
   replace hF := of_neg hF hc26
   refine TS.sk (NX.bk (NX.sq (TS.rg (TI.ra 2 [1, 20, 21, 22] (st 35 [(1, pt 1 0), (20, sv 0 p1.length ANY), (21, iv (p1.length : Int)), (22, iv (w64 (v11 + 1)))]) (TI.dn ?_)))))
   exact Rd.again (a2 := (st 35 [(1, pt 1 0), (20, sv 0 p1.length ANY), (21, iv (p1.length : Int)), (22, iv (w64 (v11 + 1)))])) (h2 := (H26_0 p1 p0)) (Wk.an [1] (.ac (.lt (.fl (.sl .nil)) (.nil _))) [pt 1 0, sv 0 p1.length ANY, iv (p1.length : Int), iv (w64 (v11 + 1))] (.pp (.sl (.fl (.fl .nil))))) (ih (w64 (v11 + 1)) _ hF)
 replace hF := of_neg hF hc20
 refine TS.ex 1 (NX.sqX ?_)
 have hF := Option.some.inj hF
 subst hF
 exact Rd.out (e := .exit 1) (by intro h; cases h) (And.intro rfl (Wk.an [] (.ac (.nil _)) [] .nil))
theorem B26 (p0 : Int) (p1 : (List ((Int × Bool) × (Int × Bool)))) (r : Int) (hF : F26 p0 p1 = some r) : TS Try.prog 1 1 c26 (st 35 [(0, ag [iv p0, sv 0 p1.length ANY])]) [ab 86 e86 p1] (NX Try.prog 1 1 [] (FinP Try.prog Try.f26 1 (V26 1 r) (N26 1 r))) := by
 unfold F26 at hF
 refine TS.sq (TS.rg (TI.rn 2 [1] [0, 1] (st 35 [(1, pt 1 0)]) (H26_0 p1 p0) (TI.dn (NX.sq (TS.sq (TS.bk 0 (TS.sq ?_)))))))
 have hX := of_do hF
 clear hF
 obtain ⟨m2, hm31, hF⟩ := hX
 have hK : NX Try.prog 1 1 [.sq c26.s2.s1.bd.s2, .bk 0, .sq c26.s2.s2] (FinP Try.prog Try.f26 1 (V26 1 r) (N26 1 r)) .normal (st 35 [(1, pt 1 0), (5, .bool m2)]) (H26_0 p1 p0) := by
  refine NX.sq ?_
  cases m2 with
  | true =>
   replace hF := of_pos hF rfl
   refine TS.cdT (.tmp 5) (TS.sq (TS.rg (TI.rn 1 [2] [0] (st 35 [(2, iv 1)]) [ab 86 e86 p1, .dead] (TI.dn (NX.sq (TS.rt (NX.bkR (NX.sqR ?_))))))))
   have hF := Option.some.inj hF
   subst hF
   exact ⟨.inr rfl, rfl, iv 1, by kernel_rfl, WkV.flat0 (by kernel_rfl) (Nat.le_of_ble_eq_true rfl)⟩
  | false =>
   replace hF := of_neg hF rfl
   refine TS.cdF (.tmp 5) (TS.sq (TS.rg (TI.ra 5 [1, 14] (st 35 [(1, pt 1 0), (14, .bool (decide ((p1.length : Int) > 80)))]) (TI.dn (NX.sq ?_)))))
   refine TS.cd (.tmp 14) (decide ((p1.length : Int) > 80)) (fun hc3 => ?_) (fun hc3 => ?_)
   · replace hF := of_pos hF hc3
     refine TS.sq (TS.rg (TI.rn 1 [2] [0] (st 35 [(2, iv 3)]) [ab 86 e86 p1, .dead] (TI.dn (NX.sq (TS.rt (NX.bkR (NX.sqR ?_)))))))
     have hF := Option.some.inj hF
     subst hF
     exact ⟨.inr rfl, rfl, iv 3, by kernel_rfl, WkV.flat0 (by kernel_rfl) (Nat.le_of_ble_eq_true rfl)⟩
   replace hF := of_neg hF hc3
   refine TS.sk (NX.bk (NX.sq (TS.sq (TS.sq (TS.rg (TI.ra 4 [1, 20, 21, 22] (st 35 [(1, pt 1 0), (20, sv 0 p1.length ANY), (21, iv (p1.length : Int)), (22, iv 0)]) (TI.dn (NX.sq ?_))))))))
   refine TS.bk 1 ?_
   have hX := of_do hF
   clear hF
   obtain ⟨r27, h28, hF⟩ := hX
   refine TS.lp (TL.weak (a2 := (st 35 [(1, pt 1 0), (20, sv 0 p1.length ANY), (21, iv (p1.length : Int)), (22, iv 0)])) (h2 := (H26_0 p1 p0)) (Wk.an [1] (.ac (.lt (.fl (.sl .nil)) (.nil _))) [pt 1 0, sv 0 p1.length ANY, iv (p1.length : Int), iv 0] (.pp (.sl (.fl (.fl .nil))))) (TL.post (L26l0 p0 p1 0 r27 h28) ?_))
   rintro e a1 h1 hp
   rcases r27 with o29 | o30
   · skip
     obtain ⟨rfl, hw⟩ := hp
     refine ⟨(st 35 [(2, iv 6)]), [ab 86 e86 p1], (NX.bkR (NX.sqR ?_)), hw⟩
     have hF := Option.some.inj hF
     subst hF
     exact ⟨.inr rfl, rfl, iv 6, by kernel_rfl, WkV.flat0 (by kernel_rfl) (Nat.le_of_ble_eq_true rfl)⟩
   skip
   obtain ⟨rfl, hw⟩ := hp
   refine ⟨(st 35 []), [ab 86 e86 p1], (NX.bkX (NX.sq (TS.sq (TS.rg (TI.ra 1 [2] (st 35 [(2, iv 0)]) (TI.dn (NX.sq (TS.rt ?_)))))))), hw⟩
   have hF := Option.some.inj hF
   subst hF
   exact ⟨.inr rfl, rfl, iv 0, by kernel_rfl, WkV.flat0 (by kernel_rfl) (Nat.le_of_ble_eq_true rfl)⟩
 rcases Bool.eq_false_or_eq_true (decide (p0 < 1)) with hc1 | hc1
 · replace hm31 := of_pos hm31 hc1
   have hm31 := Option.some.inj hm31
   subst hm31
   exact TS.rg (TI.ra 2 [1, 7] (st 35 [(1, pt 1 0), (7, iv p0)]) (TI.o { val := .bool true } (q_conv (e := decide (p0 < 1)) (b := true) (by kernel_rfl) hc1) [1, 8] [0, 1] (st 35 [(1, pt 1 0), (8, .bool true)]) (H26_0 p1 p0) (TI.ra 6 [1, 5] (st 35 [(1, pt 1 0), (5, .bool true)]) (TI.dn hK))))
 replace hm31 := of_neg hm31 hc1
 have hm31 := Option.some.inj hm31
 subst hm31
 exact TS.rg (TI.ra 2 [1, 7] (st 35 [(1, pt 1 0), (7, iv p0)]) (TI.o { val := .bool false } (q_conv (e := decide (p0 < 1)) (b := false) (by kernel_rfl) hc1) [1, 8] [0, 1] (st 35 [(1, pt 1 0), (8, .bool false)]) (H26_0 p1 p0) (TI.ra 6 [1, 5] (st 35 [(1, pt 1 0), (5, .bool (decide (p0 > 24)))]) (TI.dn hK))))
theorem C26 (p0 : Int) (p1 : (List ((Int × Bool) × (Int × Bool)))) (r : Int) (hF : F26 p0 p1 = some r) : PureSim Try.prog 26 [ag [iv p0, sv 0 p1.length ANY]] [ab 86 e86 p1] (V26 1 r) (N26 1 r) :=
 PureSim.of_Fin Try.func26 (c := c26) (by kernel_rfl) (by kernel_rfl) 1 rfl [0] [0] (by kernel_rfl) (B26 p0 p1 r hF)
end
end Go.Proofs.Ytiaippkjgmccoaa
