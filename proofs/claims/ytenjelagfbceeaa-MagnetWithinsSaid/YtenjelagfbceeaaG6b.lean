/- What functions of the program compute, and that they do. -/
import Derived.Test.YtenjelagfbceeaaG6a
set_option linter.unusedVariables false
set_option linter.unusedSimpArgs false
set_option maxRecDepth 100000
set_option maxHeartbeats 4000000
namespace Go.Proofs.Ytenjelagfbceeaa
open Go Go.Cl
-- agonic/magnet.Within
noncomputable def c34 : Code := Try.f34.code
def F34l1 (p4 : Int) (p5 : Int) (p6 : Int) (r10 : (((Int × Int) × (Int × Int)) × (Int × Int) × (Int × Int))) (r16 : Int) (r18 : Int) (r138 : (Int × Int)) (r146 : Int) (v78 : Int) (v155 : Int) (v156 : Int) (v157 : Int) : Option Int :=
    F63 v156 v157 >>= fun r164 =>
    if decide (r164 ≤ p6) then
      F53 v156 v157 1 r10.1.1.1 r10.1.1.2 >>= fun r167 =>
      F34l1 p4 p5 p6 r10 r16 r18 r138 r146 v78 (w64 (v155 + 1)) r167.1 r167.2
    else
      some v155
  partial_fixpoint
def F34l2 (p4 : Int) (p5 : Int) (p6 : Int) (r10 : (((Int × Int) × (Int × Int)) × (Int × Int) × (Int × Int))) (r16 : Int) (r18 : Int) (v78 : Int) (v178 : Int) (v179 : Int) (v180 : Int) : Option Int :=
    F63 v179 v180 >>= fun r187 =>
    if decide (r187 ≤ p6) then
      F53 v179 v180 (-1) r10.1.1.1 r10.1.1.2 >>= fun r190 =>
      F34l2 p4 p5 p6 r10 r16 r18 v78 (w64 (v178 + 1)) r190.1 r190.2
    else
      some v178
  partial_fixpoint
def F34l0 (p4 : Int) (p5 : Int) (p6 : Int) (r10 : (((Int × Int) × (Int × Int)) × (Int × Int) × (Int × Int))) (r16 : Int) (r18 : Int) (v77 : Int) (v78 : Int) : Option Int :=
    if decide (v78 ≤ (w64 ((w64 (r16 + r18)) + 1))) then
      F53 p4 p5 v78 r10.1.2.1 r10.1.2.2 >>= fun r138 =>
      F72 r138.1 r138.2 r10.1.1.1 r10.1.1.2 >>= fun r140 =>
      F63 r10.1.1.1 r10.1.1.2 >>= fun r142 =>
      F63 r10.1.1.1 r10.1.1.2 >>= fun r144 =>
      F69 (w64 ((w64 ((-2) * r140)) + r142)) (w64 (2 * r144)) >>= fun r146 =>
      F53 r138.1 r138.2 r146 r10.1.1.1 r10.1.1.2 >>= fun r148 =>
      F34l1 p4 p5 p6 r10 r16 r18 r138 r146 v78 v77 r148.1 r148.2 >>= fun r169 =>
      F53 r138.1 r138.2 (w64 (r146 - 1)) r10.1.1.1 r10.1.1.2 >>= fun r171 =>
      F34l2 p4 p5 p6 r10 r16 r18 v78 r169 r171.1 r171.2 >>= fun r192 =>
      F34l0 p4 p5 p6 r10 r16 r18 r192 (w64 (v78 + 1))
    else
      some v77
  partial_fixpoint
def F34 (p0 : Int) (p1 : Int) (p2 : Int) (p3 : Int) (p4 : Int) (p5 : Int) (p6 : Int) : Option (Int × Int) :=
  F52 p0 p1 p2 p3 p4 p5 ([]) >>= fun r1 =>
  F59 p0 p1 p2 p3 >>= fun r3 =>
  if r1 != 0 then
    some (0, r1)
  else
    F68 0 p6 1000000000 >>= fun r6 =>
    (
      if r6 then
        some (false)
      else
        some (true)
    : Option Bool) >>= fun m8 =>
    if m8 then
      some (0, 1)
    else
      if decide (p6 > (w64 (2000 * (mx r3 (w64 (0 - r3)))))) then
        some (0, 16)
      else
        F61 p0 p1 p2 p3 >>= fun r10 =>
        F59 r10.1.1.1 r10.1.1.2 r10.1.2.1 r10.1.2.2 >>= fun r12 =>
        F59 r10.1.1.1 r10.1.1.2 p4 p5 >>= fun r14 =>
        F69 (w64 (0 - r14)) r12 >>= fun r16 =>
        F70 r12 p6 r10.1.1.1 r10.1.1.2 r10.1.2.1 r10.1.2.2 r10.2.1.1 r10.2.1.2 r10.2.2.1 r10.2.2.2 >>= fun r18 =>
        F34l0 p4 p5 p6 r10 r16 r18 0 (w64 (r16 - r18)) >>= fun r194 =>
        some (r194, 0)
def V34 (b : Nat) (r : (Int × Int)) : Value := .tuple ⟨[.int .i64 r.1, .int .i64 r.2]⟩
def N34 (b : Nat) (r : (Int × Int)) : List Blk := []
def P34l1 (p4 : Int) (p5 : Int) (p6 : Int) (r10 : (((Int × Int) × (Int × Int)) × (Int × Int) × (Int × Int))) (r16 : Int) (r18 : Int) (r138 : (Int × Int)) (r146 : Int) (v78 : Int) (r : Int) : Post := fun e a h => e = .exit 3 ∧ Wk Try.prog 0 0 a h (st 134 [(4, .pointer (some ⟨0, 0, none⟩)), (5, .pointer (some ⟨1, 0, none⟩)), (10, .pointer (some ⟨2, 0, none⟩)), (11, .int .i64 r16), (12, .int .i64 r18), (13, .int .i64 r), (14, .int .i64 v78), (15, .pointer (some ⟨3, 0, none⟩)), (16, .int .i64 r146)]) [.cells 23 [.int .i64 p4, .int .i64 p5], .cells 3 [.int .i64 p6], .cells 108 [.int .i64 r10.1.1.1, .int .i64 r10.1.1.2, .int .i64 r10.1.2.1, .int .i64 r10.1.2.2, .int .i64 r10.2.1.1, .int .i64 r10.2.1.2, .int .i64 r10.2.2.1, .int .i64 r10.2.2.2], .cells 23 [.int .i64 r138.1, .int .i64 r138.2]]
theorem L34l1 (p4 : Int) (p5 : Int) (p6 : Int) (r10 : (((Int × Int) × (Int × Int)) × (Int × Int) × (Int × Int))) (r16 : Int) (r18 : Int) (r138 : (Int × Int)) (r146 : Int) (v78 : Int) (v155 : Int) (v156 : Int) (v157 : Int) (r : Int) (hF : F34l1 p4 p5 p6 r10 r16 r18 r138 r146 v78 v155 v156 v157 = some r) : TL Try.prog 0 0 c34.s2.s2.s2.s2.s2.s2.s2.s2.s2.s1.s2.bd.bd.s2.s1.bd.s2.s2.s1.s2.bd.bd (st 134 [(4, .pointer (some ⟨0, 0, none⟩)), (5, .pointer (some ⟨1, 0, none⟩)), (10, .pointer (some ⟨2, 0, none⟩)), (11, .int .i64 r16), (12, .int .i64 r18), (13, .int .i64 v155), (14, .int .i64 v78), (15, .pointer (some ⟨3, 0, none⟩)), (16, .int .i64 r146), (17, .pointer (some ⟨4, 0, none⟩))]) [.cells 23 [.int .i64 p4, .int .i64 p5], .cells 3 [.int .i64 p6], .cells 108 [.int .i64 r10.1.1.1, .int .i64 r10.1.1.2, .int .i64 r10.1.2.1, .int .i64 r10.1.2.2, .int .i64 r10.2.1.1, .int .i64 r10.2.1.2, .int .i64 r10.2.2.1, .int .i64 r10.2.2.2], .cells 23 [.int .i64 r138.1, .int .i64 r138.2], .cells 23 [.int .i64 v156, .int .i64 v157]] (P34l1 p4 p5 p6 r10 r16 r18 r138 r146 v78 r) := by
  refine F34l1.partial_correctness p4 p5 p6 r10 r16 r18 r138 r146 v78 (motive := fun v155 v156 v157 r => TL Try.prog 0 0 c34.s2.s2.s2.s2.s2.s2.s2.s2.s2.s1.s2.bd.bd.s2.s1.bd.s2.s2.s1.s2.bd.bd (st 134 [(4, .pointer (some ⟨0, 0, none⟩)), (5, .pointer (some ⟨1, 0, none⟩)), (10, .pointer (some ⟨2, 0, none⟩)), (11, .int .i64 r16), (12, .int .i64 r18), (13, .int .i64 v155), (14, .int .i64 v78), (15, .pointer (some ⟨3, 0, none⟩)), (16, .int .i64 r146), (17, .pointer (some ⟨4, 0, none⟩))]) [.cells 23 [.int .i64 p4, .int .i64 p5], .cells 3 [.int .i64 p6], .cells 108 [.int .i64 r10.1.1.1, .int .i64 r10.1.1.2, .int .i64 r10.1.2.1, .int .i64 r10.1.2.2, .int .i64 r10.2.1.1, .int .i64 r10.2.1.2, .int .i64 r10.2.2.1, .int .i64 r10.2.2.2], .cells 23 [.int .i64 r138.1, .int .i64 r138.2], .cells 23 [.int .i64 v156, .int .i64 v157]] (P34l1 p4 p5 p6 r10 r16 r18 r138 r146 v78 r)) ?_ v155 v156 v157 r hF
  clear hF r v155 v156 v157
  intro again ih v155 v156 v157 r hF
  refine TL.round ?_
  refine TS.seq' (x := c34.s2.s2.s2.s2.s2.s2.s2.s2.s2.s1.s2.bd.bd.s2.s1.bd.s2.s2.s1.s2.bd.bd.s1) (y := c34.s2.s2.s2.s2.s2.s2.s2.s2.s2.s1.s2.bd.bd.s2.s1.bd.s2.s2.s1.s2.bd.bd.s2) (by kernel_rfl) ?_
  refine TS.seq' (x := c34.s2.s2.s2.s2.s2.s2.s2.s2.s2.s1.s2.bd.bd.s2.s1.bd.s2.s2.s1.s2.bd.bd.s1.s1) (y := c34.s2.s2.s2.s2.s2.s2.s2.s2.s2.s1.s2.bd.bd.s2.s1.bd.s2.s2.s1.s2.bd.bd.s1.s2) (by kernel_rfl) ?_
  have hX := of_do hF
  clear hF
  obtain ⟨r164, h165, hF⟩ := hX
  have hT : ∀ e ∈ ([⟨63, [.agg ⟨[.int .i64 v156, .int .i64 v157]⟩], [.cells 23 [.int .i64 p4, .int .i64 p5], .cells 3 [.int .i64 p6], .cells 108 [.int .i64 r10.1.1.1, .int .i64 r10.1.1.2, .int .i64 r10.1.2.1, .int .i64 r10.1.2.2, .int .i64 r10.2.1.1, .int .i64 r10.2.1.2, .int .i64 r10.2.2.1, .int .i64 r10.2.2.2], .cells 23 [.int .i64 r138.1, .int .i64 r138.2], .cells 23 [.int .i64 v156, .int .i64 v157]], .int .i64 r164, []⟩] : List Entry), PureSim Try.prog e.g e.args e.h e.v e.new := by
    intro e he
    simp only [List.mem_cons, List.not_mem_nil, or_false] at he
    rcases he with rfl
    · exact (PureSim.any (C63 v156 v157 r164 h165) (flatL (by kernel_rfl)) (by kernel_rfl) [.cells 23 [.int .i64 p4, .int .i64 p5], .cells 3 [.int .i64 p6], .cells 108 [.int .i64 r10.1.1.1, .int .i64 r10.1.1.2, .int .i64 r10.1.2.1, .int .i64 r10.1.2.2, .int .i64 r10.2.1.1, .int .i64 r10.2.1.2, .int .i64 r10.2.2.1, .int .i64 r10.2.2.2], .cells 23 [.int .i64 r138.1, .int .i64 r138.2], .cells 23 [.int .i64 v156, .int .i64 v157]])
  refine TS.draw' (id := 20) (b := true) (ops := c34.s2.s2.s2.s2.s2.s2.s2.s2.s2.s1.s2.bd.bd.s2.s1.bd.s2.s2.s1.s2.bd.bd.s1.s1.rops) (fin := ({ act := (st 134 [(4, .pointer (some ⟨0, 0, none⟩)), (5, .pointer (some ⟨1, 0, none⟩)), (10, .pointer (some ⟨2, 0, none⟩)), (11, .int .i64 r16), (12, .int .i64 r18), (13, .int .i64 v155), (14, .int .i64 v78), (15, .pointer (some ⟨3, 0, none⟩)), (16, .int .i64 r146), (17, .pointer (some ⟨4, 0, none⟩)), (102, .agg ⟨[.int .i64 v156, .int .i64 v157]⟩), (103, .int .i64 r164), (104, .int .i64 p6)]), heap := [.cells 23 [.int .i64 p4, .int .i64 p5], .cells 3 [.int .i64 p6], .cells 108 [.int .i64 r10.1.1.1, .int .i64 r10.1.1.2, .int .i64 r10.1.2.1, .int .i64 r10.1.2.2, .int .i64 r10.2.1.1, .int .i64 r10.2.1.2, .int .i64 r10.2.2.1, .int .i64 r10.2.2.2], .cells 23 [.int .i64 r138.1, .int .i64 r138.2], .cells 23 [.int .i64 v156, .int .i64 v157]], own := [], upds := [] } : QSt)) (fin2 := ({ act := (st 134 [(4, .pointer (some ⟨0, 0, none⟩)), (5, .pointer (some ⟨1, 0, none⟩)), (10, .pointer (some ⟨2, 0, none⟩)), (11, .int .i64 r16), (12, .int .i64 r18), (13, .int .i64 v155), (14, .int .i64 v78), (15, .pointer (some ⟨3, 0, none⟩)), (16, .int .i64 r146), (17, .pointer (some ⟨4, 0, none⟩)), (102, .agg ⟨[.int .i64 v156, .int .i64 v157]⟩), (103, .int .i64 r164), (104, .int .i64 p6)]), heap := [.cells 23 [.int .i64 p4, .int .i64 p5], .cells 3 [.int .i64 p6], .cells 108 [.int .i64 r10.1.1.1, .int .i64 r10.1.1.2, .int .i64 r10.1.2.1, .int .i64 r10.1.2.2, .int .i64 r10.2.1.1, .int .i64 r10.2.1.2, .int .i64 r10.2.2.1, .int .i64 r10.2.2.2], .cells 23 [.int .i64 r138.1, .int .i64 r138.2], .cells 23 [.int .i64 v156, .int .i64 v157]], own := [], upds := [] } : QSt)) (a1 := (st 134 [(4, .pointer (some ⟨0, 0, none⟩)), (5, .pointer (some ⟨1, 0, none⟩)), (10, .pointer (some ⟨2, 0, none⟩)), (11, .int .i64 r16), (12, .int .i64 r18), (13, .int .i64 v155), (14, .int .i64 v78), (15, .pointer (some ⟨3, 0, none⟩)), (16, .int .i64 r146), (17, .pointer (some ⟨4, 0, none⟩)), (102, .agg ⟨[.int .i64 v156, .int .i64 v157]⟩), (103, .int .i64 r164), (104, .int .i64 p6), (105, .bool (decide (r164 ≤ p6)))])) (h1 := [.cells 23 [.int .i64 p4, .int .i64 p5], .cells 3 [.int .i64 p6], .cells 108 [.int .i64 r10.1.1.1, .int .i64 r10.1.1.2, .int .i64 r10.1.2.1, .int .i64 r10.1.2.2, .int .i64 r10.2.1.1, .int .i64 r10.2.1.2, .int .i64 r10.2.2.1, .int .i64 r10.2.2.2], .cells 23 [.int .i64 r138.1, .int .i64 r138.2], .cells 23 [.int .i64 v156, .int .i64 v157]]) (a2 := (st 134 [(4, .pointer (some ⟨0, 0, none⟩)), (5, .pointer (some ⟨1, 0, none⟩)), (10, .pointer (some ⟨2, 0, none⟩)), (11, .int .i64 r16), (12, .int .i64 r18), (13, .int .i64 v155), (14, .int .i64 v78), (15, .pointer (some ⟨3, 0, none⟩)), (16, .int .i64 r146), (17, .pointer (some ⟨4, 0, none⟩)), (105, .bool (decide (r164 ≤ p6)))])) (h2 := [.cells 23 [.int .i64 p4, .int .i64 p5], .cells 3 [.int .i64 p6], .cells 108 [.int .i64 r10.1.1.1, .int .i64 r10.1.1.2, .int .i64 r10.1.2.1, .int .i64 r10.1.2.2, .int .i64 r10.2.1.1, .int .i64 r10.2.1.2, .int .i64 r10.2.2.1, .int .i64 r10.2.2.2], .cells 23 [.int .i64 r138.1, .int .i64 r138.2], .cells 23 [.int .i64 v156, .int .i64 v157]]) [⟨63, [.agg ⟨[.int .i64 v156, .int .i64 v157]⟩], [.cells 23 [.int .i64 p4, .int .i64 p5], .cells 3 [.int .i64 p6], .cells 108 [.int .i64 r10.1.1.1, .int .i64 r10.1.1.2, .int .i64 r10.1.2.1, .int .i64 r10.1.2.2, .int .i64 r10.2.1.1, .int .i64 r10.2.1.2, .int .i64 r10.2.2.1, .int .i64 r10.2.2.2], .cells 23 [.int .i64 r138.1, .int .i64 r138.2], .cells 23 [.int .i64 v156, .int .i64 v157]], .int .i64 r164, []⟩] hT mixed (by kernel_rfl) rfl 3 (by kernel_rfl) [] ?_ rfl (.inl ⟨rfl, rfl⟩) ?_ [4, 5, 10, 11, 12, 13, 14, 15, 16, 17, 105] [0, 1, 2, 3, 4] (by kernel_rfl) ?_
  · refine QI.run (s1 := ({ act := (st 134 [(4, .pointer (some ⟨0, 0, none⟩)), (5, .pointer (some ⟨1, 0, none⟩)), (10, .pointer (some ⟨2, 0, none⟩)), (11, .int .i64 r16), (12, .int .i64 r18), (13, .int .i64 v155), (14, .int .i64 v78), (15, .pointer (some ⟨3, 0, none⟩)), (16, .int .i64 r146), (17, .pointer (some ⟨4, 0, none⟩)), (102, .agg ⟨[.int .i64 v156, .int .i64 v157]⟩)]), heap := [.cells 23 [.int .i64 p4, .int .i64 p5], .cells 3 [.int .i64 p6], .cells 108 [.int .i64 r10.1.1.1, .int .i64 r10.1.1.2, .int .i64 r10.1.2.1, .int .i64 r10.1.2.2, .int .i64 r10.2.1.1, .int .i64 r10.2.1.2, .int .i64 r10.2.2.1, .int .i64 r10.2.2.2], .cells 23 [.int .i64 r138.1, .int .i64 r138.2], .cells 23 [.int .i64 v156, .int .i64 v157]], own := [], upds := [] } : QSt)) 1 (by kernel_rfl) (by kernel_rfl) ?_
    refine QI.op (q := { val := .int .i64 r164, new := [] }) (s1 := ({ act := (st 134 [(4, .pointer (some ⟨0, 0, none⟩)), (5, .pointer (some ⟨1, 0, none⟩)), (10, .pointer (some ⟨2, 0, none⟩)), (11, .int .i64 r16), (12, .int .i64 r18), (13, .int .i64 v155), (14, .int .i64 v78), (15, .pointer (some ⟨3, 0, none⟩)), (16, .int .i64 r146), (17, .pointer (some ⟨4, 0, none⟩)), (102, .agg ⟨[.int .i64 v156, .int .i64 v157]⟩), (103, .int .i64 r164)]), heap := [.cells 23 [.int .i64 p4, .int .i64 p5], .cells 3 [.int .i64 p6], .cells 108 [.int .i64 r10.1.1.1, .int .i64 r10.1.1.2, .int .i64 r10.1.2.1, .int .i64 r10.1.2.2, .int .i64 r10.2.1.1, .int .i64 r10.2.1.2, .int .i64 r10.2.2.1, .int .i64 r10.2.2.2], .cells 23 [.int .i64 r138.1, .int .i64 r138.2], .cells 23 [.int .i64 v156, .int .i64 v157]], own := [], upds := [] } : QSt)) (by decide) (qOf_call (g := 63) (args := [.agg ⟨[.int .i64 v156, .int .i64 v157]⟩]) (by kernel_rfl) lookC_hit) (by kernel_rfl) ?_
    refine QI.run (s1 := ({ act := (st 134 [(4, .pointer (some ⟨0, 0, none⟩)), (5, .pointer (some ⟨1, 0, none⟩)), (10, .pointer (some ⟨2, 0, none⟩)), (11, .int .i64 r16), (12, .int .i64 r18), (13, .int .i64 v155), (14, .int .i64 v78), (15, .pointer (some ⟨3, 0, none⟩)), (16, .int .i64 r146), (17, .pointer (some ⟨4, 0, none⟩)), (102, .agg ⟨[.int .i64 v156, .int .i64 v157]⟩), (103, .int .i64 r164), (104, .int .i64 p6)]), heap := [.cells 23 [.int .i64 p4, .int .i64 p5], .cells 3 [.int .i64 p6], .cells 108 [.int .i64 r10.1.1.1, .int .i64 r10.1.1.2, .int .i64 r10.1.2.1, .int .i64 r10.1.2.2, .int .i64 r10.2.1.1, .int .i64 r10.2.1.2, .int .i64 r10.2.2.1, .int .i64 r10.2.2.2], .cells 23 [.int .i64 r138.1, .int .i64 r138.2], .cells 23 [.int .i64 v156, .int .i64 v157]], own := [], upds := [] } : QSt)) 1 (by kernel_rfl) (by kernel_rfl) ?_
    exact QI.done (by kernel_rfl)
  · refine SI.run (a2 := (st 134 [(4, .pointer (some ⟨0, 0, none⟩)), (5, .pointer (some ⟨1, 0, none⟩)), (10, .pointer (some ⟨2, 0, none⟩)), (11, .int .i64 r16), (12, .int .i64 r18), (13, .int .i64 v155), (14, .int .i64 v78), (15, .pointer (some ⟨3, 0, none⟩)), (16, .int .i64 r146), (17, .pointer (some ⟨4, 0, none⟩)), (102, .agg ⟨[.int .i64 v156, .int .i64 v157]⟩), (103, .int .i64 r164), (104, .int .i64 p6), (105, .bool (decide (r164 ≤ p6)))])) (h2 := [.cells 23 [.int .i64 p4, .int .i64 p5], .cells 3 [.int .i64 p6], .cells 108 [.int .i64 r10.1.1.1, .int .i64 r10.1.1.2, .int .i64 r10.1.2.1, .int .i64 r10.1.2.2, .int .i64 r10.2.1.1, .int .i64 r10.2.1.2, .int .i64 r10.2.2.1, .int .i64 r10.2.2.2], .cells 23 [.int .i64 r138.1, .int .i64 r138.2], .cells 23 [.int .i64 v156, .int .i64 v157]]) 1 (by kernel_rfl) ?_
    exact SI.done (by kernel_rfl)
  refine TS.cond' (o := (.tmp 105)) (x := c34.s2.s2.s2.s2.s2.s2.s2.s2.s2.s1.s2.bd.bd.s2.s1.bd.s2.s2.s1.s2.bd.bd.s1.s2.th) (y := c34.s2.s2.s2.s2.s2.s2.s2.s2.s2.s1.s2.bd.bd.s2.s1.bd.s2.s2.s1.s2.bd.bd.s1.s2.el) (b := decide (r164 ≤ p6)) (by kernel_rfl) (by kernel_rfl) (fun hc166 => ?_) (fun hc166 => ?_)
  · replace hF := of_pos hF hc166
    refine TS.skip' (by kernel_rfl) ?_
    refine NX.sq ?_
    refine TS.seq' (x := c34.s2.s2.s2.s2.s2.s2.s2.s2.s2.s1.s2.bd.bd.s2.s1.bd.s2.s2.s1.s2.bd.bd.s2.s1) (y := c34.s2.s2.s2.s2.s2.s2.s2.s2.s2.s1.s2.bd.bd.s2.s1.bd.s2.s2.s1.s2.bd.bd.s2.s2) (by kernel_rfl) ?_
    refine TS.block' (id := 4) (x := c34.s2.s2.s2.s2.s2.s2.s2.s2.s2.s1.s2.bd.bd.s2.s1.bd.s2.s2.s1.s2.bd.bd.s2.s1.bd) (by kernel_rfl) ?_
    refine TS.region' (id := 22) (b := false) (ops := c34.s2.s2.s2.s2.s2.s2.s2.s2.s2.s1.s2.bd.bd.s2.s1.bd.s2.s2.s1.s2.bd.bd.s2.s1.bd.rops) (by kernel_rfl) rfl ?_
    refine TI.run 3 [4, 5, 10, 11, 12, 13, 14, 15, 16, 17] [0, 1, 2, 3, 4] (a2 := (st 134 [(4, .pointer (some ⟨0, 0, none⟩)), (5, .pointer (some ⟨1, 0, none⟩)), (10, .pointer (some ⟨2, 0, none⟩)), (11, .int .i64 r16), (12, .int .i64 r18), (13, .int .i64 (w64 (v155 + 1))), (14, .int .i64 v78), (15, .pointer (some ⟨3, 0, none⟩)), (16, .int .i64 r146), (17, .pointer (some ⟨4, 0, none⟩))])) (h2 := [.cells 23 [.int .i64 p4, .int .i64 p5], .cells 3 [.int .i64 p6], .cells 108 [.int .i64 r10.1.1.1, .int .i64 r10.1.1.2, .int .i64 r10.1.2.1, .int .i64 r10.1.2.2, .int .i64 r10.2.1.1, .int .i64 r10.2.1.2, .int .i64 r10.2.2.1, .int .i64 r10.2.2.2], .cells 23 [.int .i64 r138.1, .int .i64 r138.2], .cells 23 [.int .i64 v156, .int .i64 v157]]) (by kernel_rfl) ?_
    refine TI.done (by kernel_rfl) ?_
    refine NX.bk ?_
    refine NX.sq ?_
    refine TS.seq' (x := c34.s2.s2.s2.s2.s2.s2.s2.s2.s2.s1.s2.bd.bd.s2.s1.bd.s2.s2.s1.s2.bd.bd.s2.s2.s1) (y := c34.s2.s2.s2.s2.s2.s2.s2.s2.s2.s1.s2.bd.bd.s2.s1.bd.s2.s2.s1.s2.bd.bd.s2.s2.s2) (by kernel_rfl) ?_
    refine TS.seq' (x := c34.s2.s2.s2.s2.s2.s2.s2.s2.s2.s1.s2.bd.bd.s2.s1.bd.s2.s2.s1.s2.bd.bd.s2.s2.s1.s1) (y := c34.s2.s2.s2.s2.s2.s2.s2.s2.s2.s1.s2.bd.bd.s2.s1.bd.s2.s2.s1.s2.bd.bd.s2.s2.s1.s2) (by kernel_rfl) ?_
    refine TS.region' (id := 23) (b := false) (ops := c34.s2.s2.s2.s2.s2.s2.s2.s2.s2.s1.s2.bd.bd.s2.s1.bd.s2.s2.s1.s2.bd.bd.s2.s2.s1.s1.rops) (by kernel_rfl) rfl ?_
    refine TI.run 1 [4, 5, 10, 11, 12, 13, 14, 15, 16, 113] [0, 1, 2, 3] (a2 := (st 134 [(4, .pointer (some ⟨0, 0, none⟩)), (5, .pointer (some ⟨1, 0, none⟩)), (10, .pointer (some ⟨2, 0, none⟩)), (11, .int .i64 r16), (12, .int .i64 r18), (13, .int .i64 (w64 (v155 + 1))), (14, .int .i64 v78), (15, .pointer (some ⟨3, 0, none⟩)), (16, .int .i64 r146), (113, .agg ⟨[.int .i64 v156, .int .i64 v157]⟩)])) (h2 := [.cells 23 [.int .i64 p4, .int .i64 p5], .cells 3 [.int .i64 p6], .cells 108 [.int .i64 r10.1.1.1, .int .i64 r10.1.1.2, .int .i64 r10.1.2.1, .int .i64 r10.1.2.2, .int .i64 r10.2.1.1, .int .i64 r10.2.1.2, .int .i64 r10.2.2.1, .int .i64 r10.2.2.2], .cells 23 [.int .i64 r138.1, .int .i64 r138.2], .dead]) (by kernel_rfl) ?_
    refine TI.done (by kernel_rfl) ?_
    refine NX.sq ?_
    refine TS.region' (id := 24) (b := false) (ops := c34.s2.s2.s2.s2.s2.s2.s2.s2.s2.s1.s2.bd.bd.s2.s1.bd.s2.s2.s1.s2.bd.bd.s2.s2.s1.s2.rops) (by kernel_rfl) rfl ?_
    refine TI.run 2 [4, 5, 10, 11, 12, 13, 14, 15, 16, 17] [0, 1, 2, 3, 5] (a2 := (st 134 [(4, .pointer (some ⟨0, 0, none⟩)), (5, .pointer (some ⟨1, 0, none⟩)), (10, .pointer (some ⟨2, 0, none⟩)), (11, .int .i64 r16), (12, .int .i64 r18), (13, .int .i64 (w64 (v155 + 1))), (14, .int .i64 v78), (15, .pointer (some ⟨3, 0, none⟩)), (16, .int .i64 r146), (17, .pointer (some ⟨5, 0, none⟩))])) (h2 := [.cells 23 [.int .i64 p4, .int .i64 p5], .cells 3 [.int .i64 p6], .cells 108 [.int .i64 r10.1.1.1, .int .i64 r10.1.1.2, .int .i64 r10.1.2.1, .int .i64 r10.1.2.2, .int .i64 r10.2.1.1, .int .i64 r10.2.1.2, .int .i64 r10.2.2.1, .int .i64 r10.2.2.2], .cells 23 [.int .i64 r138.1, .int .i64 r138.2], .dead, .cells 23 [.int .i64 v156, .int .i64 v157]]) (by kernel_rfl) ?_
    refine TI.done (by kernel_rfl) ?_
    refine NX.sq ?_
    have hX := of_do hF
    clear hF
    obtain ⟨r167, h168, hF⟩ := hX
    refine TS.region' (id := 21) (b := false) (ops := c34.s2.s2.s2.s2.s2.s2.s2.s2.s2.s1.s2.bd.bd.s2.s1.bd.s2.s2.s1.s2.bd.bd.s2.s2.s2.rops) (by kernel_rfl) rfl ?_
    refine TI.run 4 [4, 5, 10, 11, 12, 13, 14, 15, 16, 17, 106, 109] [0, 1, 2, 3, 5] (a2 := (st 134 [(4, .pointer (some ⟨0, 0, none⟩)), (5, .pointer (some ⟨1, 0, none⟩)), (10, .pointer (some ⟨2, 0, none⟩)), (11, .int .i64 r16), (12, .int .i64 r18), (13, .int .i64 (w64 (v155 + 1))), (14, .int .i64 v78), (15, .pointer (some ⟨3, 0, none⟩)), (16, .int .i64 r146), (17, .pointer (some ⟨5, 0, none⟩)), (106, .agg ⟨[.int .i64 v156, .int .i64 v157]⟩), (109, .agg ⟨[.int .i64 r10.1.1.1, .int .i64 r10.1.1.2]⟩)])) (h2 := [.cells 23 [.int .i64 p4, .int .i64 p5], .cells 3 [.int .i64 p6], .cells 108 [.int .i64 r10.1.1.1, .int .i64 r10.1.1.2, .int .i64 r10.1.2.1, .int .i64 r10.1.2.2, .int .i64 r10.2.1.1, .int .i64 r10.2.1.2, .int .i64 r10.2.2.1, .int .i64 r10.2.2.2], .cells 23 [.int .i64 r138.1, .int .i64 r138.2], .dead, .cells 23 [.int .i64 v156, .int .i64 v157]]) (by kernel_rfl) ?_
    refine TI.callM (g := 53) (args := [.agg ⟨[.int .i64 v156, .int .i64 v157]⟩, .int .i64 1, .agg ⟨[.int .i64 r10.1.1.1, .int .i64 r10.1.1.2]⟩]) (v := .agg ⟨[.int .i64 r167.1, .int .i64 r167.2]⟩) (new := []) (by kernel_rfl) (PureSim.any (C53 v156 v157 1 r10.1.1.1 r10.1.1.2 r167 h168) (flatL (by kernel_rfl)) (by kernel_rfl) [.cells 23 [.int .i64 p4, .int .i64 p5], .cells 3 [.int .i64 p6], .cells 108 [.int .i64 r10.1.1.1, .int .i64 r10.1.1.2, .int .i64 r10.1.2.1, .int .i64 r10.1.2.2, .int .i64 r10.2.1.1, .int .i64 r10.2.1.2, .int .i64 r10.2.2.1, .int .i64 r10.2.2.2], .cells 23 [.int .i64 r138.1, .int .i64 r138.2], .dead, .cells 23 [.int .i64 v156, .int .i64 v157]]) [4, 5, 10, 11, 12, 13, 14, 15, 16, 17, 110] [0, 1, 2, 3, 5] (a2 := (st 134 [(4, .pointer (some ⟨0, 0, none⟩)), (5, .pointer (some ⟨1, 0, none⟩)), (10, .pointer (some ⟨2, 0, none⟩)), (11, .int .i64 r16), (12, .int .i64 r18), (13, .int .i64 (w64 (v155 + 1))), (14, .int .i64 v78), (15, .pointer (some ⟨3, 0, none⟩)), (16, .int .i64 r146), (17, .pointer (some ⟨5, 0, none⟩)), (110, .agg ⟨[.int .i64 r167.1, .int .i64 r167.2]⟩)])) (h2 := [.cells 23 [.int .i64 p4, .int .i64 p5], .cells 3 [.int .i64 p6], .cells 108 [.int .i64 r10.1.1.1, .int .i64 r10.1.1.2, .int .i64 r10.1.2.1, .int .i64 r10.1.2.2, .int .i64 r10.2.1.1, .int .i64 r10.2.1.2, .int .i64 r10.2.2.1, .int .i64 r10.2.2.2], .cells 23 [.int .i64 r138.1, .int .i64 r138.2], .dead, .cells 23 [.int .i64 v156, .int .i64 v157]]) (by kernel_rfl) ?_
    refine TI.run 1 [4, 5, 10, 11, 12, 13, 14, 15, 16, 17] [0, 1, 2, 3, 5] (a2 := (st 134 [(4, .pointer (some ⟨0, 0, none⟩)), (5, .pointer (some ⟨1, 0, none⟩)), (10, .pointer (some ⟨2, 0, none⟩)), (11, .int .i64 r16), (12, .int .i64 r18), (13, .int .i64 (w64 (v155 + 1))), (14, .int .i64 v78), (15, .pointer (some ⟨3, 0, none⟩)), (16, .int .i64 r146), (17, .pointer (some ⟨5, 0, none⟩))])) (h2 := [.cells 23 [.int .i64 p4, .int .i64 p5], .cells 3 [.int .i64 p6], .cells 108 [.int .i64 r10.1.1.1, .int .i64 r10.1.1.2, .int .i64 r10.1.2.1, .int .i64 r10.1.2.2, .int .i64 r10.2.1.1, .int .i64 r10.2.1.2, .int .i64 r10.2.2.1, .int .i64 r10.2.2.2], .cells 23 [.int .i64 r138.1, .int .i64 r138.2], .dead, .cells 23 [.int .i64 r167.1, .int .i64 r167.2]]) (by kernel_rfl) ?_
    refine TI.done (by kernel_rfl) ?_
    exact Rd.again (a2 := (st 134 [(4, .pointer (some ⟨0, 0, none⟩)), (5, .pointer (some ⟨1, 0, none⟩)), (10, .pointer (some ⟨2, 0, none⟩)), (11, .int .i64 r16), (12, .int .i64 r18), (13, .int .i64 (w64 (v155 + 1))), (14, .int .i64 v78), (15, .pointer (some ⟨3, 0, none⟩)), (16, .int .i64 r146), (17, .pointer (some ⟨4, 0, none⟩))])) (h2 := [.cells 23 [.int .i64 p4, .int .i64 p5], .cells 3 [.int .i64 p6], .cells 108 [.int .i64 r10.1.1.1, .int .i64 r10.1.1.2, .int .i64 r10.1.2.1, .int .i64 r10.1.2.2, .int .i64 r10.2.1.1, .int .i64 r10.2.1.2, .int .i64 r10.2.2.1, .int .i64 r10.2.2.2], .cells 23 [.int .i64 r138.1, .int .i64 r138.2], .cells 23 [.int .i64 r167.1, .int .i64 r167.2]]) (Wk.anew (base := 0) (L := 0) (f := [0, 1, 2, 3, 5]) (by decide) (by decide) (Nat.le_of_ble_eq_true rfl) rfl (.cons (At.blk (by kernel_rfl) (RnB.lit (.cons (.flat (by kernel_rfl)) (.cons (.flat (by kernel_rfl)) .nil)))) (.cons (At.blk (by kernel_rfl) (RnB.lit (.cons (.flat (by kernel_rfl)) .nil))) (.cons (At.blk (by kernel_rfl) (RnB.lit (.cons (.flat (by kernel_rfl)) (.cons (.flat (by kernel_rfl)) (.cons (.flat (by kernel_rfl)) (.cons (.flat (by kernel_rfl)) (.cons (.flat (by kernel_rfl)) (.cons (.flat (by kernel_rfl)) (.cons (.flat (by kernel_rfl)) (.cons (.flat (by kernel_rfl)) .nil)))))))))) (.cons (At.blk (by kernel_rfl) (RnB.lit (.cons (.flat (by kernel_rfl)) (.cons (.flat (by kernel_rfl)) .nil)))) (.cons (At.blk (by kernel_rfl) (RnB.lit (.cons (.flat (by kernel_rfl)) (.cons (.flat (by kernel_rfl)) .nil)))) (.nil _)))))) (LRn.stx [4, 5, 10, 11, 12, 13, 14, 15, 16, 17] [.pointer (some ⟨0, 0, none⟩), .pointer (some ⟨1, 0, none⟩), .pointer (some ⟨2, 0, none⟩), .int .i64 r16, .int .i64 r18, .int .i64 (w64 (v155 + 1)), .int .i64 v78, .pointer (some ⟨3, 0, none⟩), .int .i64 r146, .pointer (some ⟨4, 0, none⟩)] [.pointer (some ⟨0, 0, none⟩), .pointer (some ⟨1, 0, none⟩), .pointer (some ⟨2, 0, none⟩), .int .i64 r16, .int .i64 r18, .int .i64 (w64 (v155 + 1)), .int .i64 v78, .pointer (some ⟨3, 0, none⟩), .int .i64 r146, .pointer (some ⟨5, 0, none⟩)] (.cons (Rn.ptr _ _ _ (Nat.le_of_ble_eq_true rfl) rfl) (.cons (Rn.ptr _ _ _ (Nat.le_of_ble_eq_true rfl) rfl) (.cons (Rn.ptr _ _ _ (Nat.le_of_ble_eq_true rfl) rfl) (.cons (.flat (by kernel_rfl)) (.cons (.flat (by kernel_rfl)) (.cons (.flat (by kernel_rfl)) (.cons (.flat (by kernel_rfl)) (.cons (Rn.ptr _ _ _ (Nat.le_of_ble_eq_true rfl) rfl) (.cons (.flat (by kernel_rfl)) (.cons (Rn.ptr _ _ _ (Nat.le_of_ble_eq_true rfl) rfl) .nil)))))))))) (by kernel_rfl) (by kernel_rfl) rfl) rfl rfl) (ih (w64 (v155 + 1)) r167.1 r167.2 _ hF)
  · replace hF := of_neg hF hc166
    refine TS.exit' (id := 3) (by kernel_rfl) ?_
    refine NX.sqX ?_
    have hF := Option.some.inj hF
    subst hF
    exact Rd.out (e := .exit 3) (by intro h; cases h) (And.intro rfl (Wk.anew (base := 0) (L := 0) (f := [0, 1, 2, 3]) (by decide) (by decide) (Nat.le_of_ble_eq_true rfl) rfl (.cons (At.blk (by kernel_rfl) (RnB.lit (.cons (.flat (by kernel_rfl)) (.cons (.flat (by kernel_rfl)) .nil)))) (.cons (At.blk (by kernel_rfl) (RnB.lit (.cons (.flat (by kernel_rfl)) .nil))) (.cons (At.blk (by kernel_rfl) (RnB.lit (.cons (.flat (by kernel_rfl)) (.cons (.flat (by kernel_rfl)) (.cons (.flat (by kernel_rfl)) (.cons (.flat (by kernel_rfl)) (.cons (.flat (by kernel_rfl)) (.cons (.flat (by kernel_rfl)) (.cons (.flat (by kernel_rfl)) (.cons (.flat (by kernel_rfl)) .nil)))))))))) (.cons (At.blk (by kernel_rfl) (RnB.lit (.cons (.flat (by kernel_rfl)) (.cons (.flat (by kernel_rfl)) .nil)))) (.nil _))))) (LRn.stx [4, 5, 10, 11, 12, 13, 14, 15, 16] [.pointer (some ⟨0, 0, none⟩), .pointer (some ⟨1, 0, none⟩), .pointer (some ⟨2, 0, none⟩), .int .i64 r16, .int .i64 r18, .int .i64 v155, .int .i64 v78, .pointer (some ⟨3, 0, none⟩), .int .i64 r146] [.pointer (some ⟨0, 0, none⟩), .pointer (some ⟨1, 0, none⟩), .pointer (some ⟨2, 0, none⟩), .int .i64 r16, .int .i64 r18, .int .i64 v155, .int .i64 v78, .pointer (some ⟨3, 0, none⟩), .int .i64 r146] (.cons (Rn.ptr _ _ _ (Nat.le_of_ble_eq_true rfl) rfl) (.cons (Rn.ptr _ _ _ (Nat.le_of_ble_eq_true rfl) rfl) (.cons (Rn.ptr _ _ _ (Nat.le_of_ble_eq_true rfl) rfl) (.cons (.flat (by kernel_rfl)) (.cons (.flat (by kernel_rfl)) (.cons (.flat (by kernel_rfl)) (.cons (.flat (by kernel_rfl)) (.cons (Rn.ptr _ _ _ (Nat.le_of_ble_eq_true rfl) rfl) (.cons (.flat (by kernel_rfl)) .nil))))))))) (by kernel_rfl) (by kernel_rfl) rfl) rfl rfl))
def P34l2 (p4 : Int) (p5 : Int) (p6 : Int) (r10 : (((Int × Int) × (Int × Int)) × (Int × Int) × (Int × Int))) (r16 : Int) (r18 : Int) (v78 : Int) (r : Int) : Post := fun e a h => e = .exit 5 ∧ Wk Try.prog 0 0 a h (st 134 [(4, .pointer (some ⟨0, 0, none⟩)), (5, .pointer (some ⟨1, 0, none⟩)), (10, .pointer (some ⟨2, 0, none⟩)), (11, .int .i64 r16), (12, .int .i64 r18), (13, .int .i64 r), (14, .int .i64 v78)]) [.cells 23 [.int .i64 p4, .int .i64 p5], .cells 3 [.int .i64 p6], .cells 108 [.int .i64 r10.1.1.1, .int .i64 r10.1.1.2, .int .i64 r10.1.2.1, .int .i64 r10.1.2.2, .int .i64 r10.2.1.1, .int .i64 r10.2.1.2, .int .i64 r10.2.2.1, .int .i64 r10.2.2.2]]
theorem L34l2 (p4 : Int) (p5 : Int) (p6 : Int) (r10 : (((Int × Int) × (Int × Int)) × (Int × Int) × (Int × Int))) (r16 : Int) (r18 : Int) (v78 : Int) (v178 : Int) (v179 : Int) (v180 : Int) (r : Int) (hF : F34l2 p4 p5 p6 r10 r16 r18 v78 v178 v179 v180 = some r) : TL Try.prog 0 0 c34.s2.s2.s2.s2.s2.s2.s2.s2.s2.s1.s2.bd.bd.s2.s1.bd.s2.s2.s2.s2.bd.bd (st 134 [(4, .pointer (some ⟨0, 0, none⟩)), (5, .pointer (some ⟨1, 0, none⟩)), (10, .pointer (some ⟨2, 0, none⟩)), (11, .int .i64 r16), (12, .int .i64 r18), (13, .int .i64 v178), (14, .int .i64 v78), (18, .pointer (some ⟨3, 0, none⟩))]) [.cells 23 [.int .i64 p4, .int .i64 p5], .cells 3 [.int .i64 p6], .cells 108 [.int .i64 r10.1.1.1, .int .i64 r10.1.1.2, .int .i64 r10.1.2.1, .int .i64 r10.1.2.2, .int .i64 r10.2.1.1, .int .i64 r10.2.1.2, .int .i64 r10.2.2.1, .int .i64 r10.2.2.2], .cells 23 [.int .i64 v179, .int .i64 v180]] (P34l2 p4 p5 p6 r10 r16 r18 v78 r) := by
  refine F34l2.partial_correctness p4 p5 p6 r10 r16 r18 v78 (motive := fun v178 v179 v180 r => TL Try.prog 0 0 c34.s2.s2.s2.s2.s2.s2.s2.s2.s2.s1.s2.bd.bd.s2.s1.bd.s2.s2.s2.s2.bd.bd (st 134 [(4, .pointer (some ⟨0, 0, none⟩)), (5, .pointer (some ⟨1, 0, none⟩)), (10, .pointer (some ⟨2, 0, none⟩)), (11, .int .i64 r16), (12, .int .i64 r18), (13, .int .i64 v178), (14, .int .i64 v78), (18, .pointer (some ⟨3, 0, none⟩))]) [.cells 23 [.int .i64 p4, .int .i64 p5], .cells 3 [.int .i64 p6], .cells 108 [.int .i64 r10.1.1.1, .int .i64 r10.1.1.2, .int .i64 r10.1.2.1, .int .i64 r10.1.2.2, .int .i64 r10.2.1.1, .int .i64 r10.2.1.2, .int .i64 r10.2.2.1, .int .i64 r10.2.2.2], .cells 23 [.int .i64 v179, .int .i64 v180]] (P34l2 p4 p5 p6 r10 r16 r18 v78 r)) ?_ v178 v179 v180 r hF
  clear hF r v178 v179 v180
  intro again ih v178 v179 v180 r hF
  refine TL.round ?_
  refine TS.seq' (x := c34.s2.s2.s2.s2.s2.s2.s2.s2.s2.s1.s2.bd.bd.s2.s1.bd.s2.s2.s2.s2.bd.bd.s1) (y := c34.s2.s2.s2.s2.s2.s2.s2.s2.s2.s1.s2.bd.bd.s2.s1.bd.s2.s2.s2.s2.bd.bd.s2) (by kernel_rfl) ?_
  refine TS.seq' (x := c34.s2.s2.s2.s2.s2.s2.s2.s2.s2.s1.s2.bd.bd.s2.s1.bd.s2.s2.s2.s2.bd.bd.s1.s1) (y := c34.s2.s2.s2.s2.s2.s2.s2.s2.s2.s1.s2.bd.bd.s2.s1.bd.s2.s2.s2.s2.bd.bd.s1.s2) (by kernel_rfl) ?_
  have hX := of_do hF
  clear hF
  obtain ⟨r187, h188, hF⟩ := hX
  have hT : ∀ e ∈ ([⟨63, [.agg ⟨[.int .i64 v179, .int .i64 v180]⟩], [.cells 23 [.int .i64 p4, .int .i64 p5], .cells 3 [.int .i64 p6], .cells 108 [.int .i64 r10.1.1.1, .int .i64 r10.1.1.2, .int .i64 r10.1.2.1, .int .i64 r10.1.2.2, .int .i64 r10.2.1.1, .int .i64 r10.2.1.2, .int .i64 r10.2.2.1, .int .i64 r10.2.2.2], .cells 23 [.int .i64 v179, .int .i64 v180]], .int .i64 r187, []⟩] : List Entry), PureSim Try.prog e.g e.args e.h e.v e.new := by
    intro e he
    simp only [List.mem_cons, List.not_mem_nil, or_false] at he
    rcases he with rfl
    · exact (PureSim.any (C63 v179 v180 r187 h188) (flatL (by kernel_rfl)) (by kernel_rfl) [.cells 23 [.int .i64 p4, .int .i64 p5], .cells 3 [.int .i64 p6], .cells 108 [.int .i64 r10.1.1.1, .int .i64 r10.1.1.2, .int .i64 r10.1.2.1, .int .i64 r10.1.2.2, .int .i64 r10.2.1.1, .int .i64 r10.2.1.2, .int .i64 r10.2.2.1, .int .i64 r10.2.2.2], .cells 23 [.int .i64 v179, .int .i64 v180]])
  refine TS.draw' (id := 26) (b := true) (ops := c34.s2.s2.s2.s2.s2.s2.s2.s2.s2.s1.s2.bd.bd.s2.s1.bd.s2.s2.s2.s2.bd.bd.s1.s1.rops) (fin := ({ act := (st 134 [(4, .pointer (some ⟨0, 0, none⟩)), (5, .pointer (some ⟨1, 0, none⟩)), (10, .pointer (some ⟨2, 0, none⟩)), (11, .int .i64 r16), (12, .int .i64 r18), (13, .int .i64 v178), (14, .int .i64 v78), (18, .pointer (some ⟨3, 0, none⟩)), (121, .agg ⟨[.int .i64 v179, .int .i64 v180]⟩), (122, .int .i64 r187), (123, .int .i64 p6)]), heap := [.cells 23 [.int .i64 p4, .int .i64 p5], .cells 3 [.int .i64 p6], .cells 108 [.int .i64 r10.1.1.1, .int .i64 r10.1.1.2, .int .i64 r10.1.2.1, .int .i64 r10.1.2.2, .int .i64 r10.2.1.1, .int .i64 r10.2.1.2, .int .i64 r10.2.2.1, .int .i64 r10.2.2.2], .cells 23 [.int .i64 v179, .int .i64 v180]], own := [], upds := [] } : QSt)) (fin2 := ({ act := (st 134 [(4, .pointer (some ⟨0, 0, none⟩)), (5, .pointer (some ⟨1, 0, none⟩)), (10, .pointer (some ⟨2, 0, none⟩)), (11, .int .i64 r16), (12, .int .i64 r18), (13, .int .i64 v178), (14, .int .i64 v78), (18, .pointer (some ⟨3, 0, none⟩)), (121, .agg ⟨[.int .i64 v179, .int .i64 v180]⟩), (122, .int .i64 r187), (123, .int .i64 p6)]), heap := [.cells 23 [.int .i64 p4, .int .i64 p5], .cells 3 [.int .i64 p6], .cells 108 [.int .i64 r10.1.1.1, .int .i64 r10.1.1.2, .int .i64 r10.1.2.1, .int .i64 r10.1.2.2, .int .i64 r10.2.1.1, .int .i64 r10.2.1.2, .int .i64 r10.2.2.1, .int .i64 r10.2.2.2], .cells 23 [.int .i64 v179, .int .i64 v180]], own := [], upds := [] } : QSt)) (a1 := (st 134 [(4, .pointer (some ⟨0, 0, none⟩)), (5, .pointer (some ⟨1, 0, none⟩)), (10, .pointer (some ⟨2, 0, none⟩)), (11, .int .i64 r16), (12, .int .i64 r18), (13, .int .i64 v178), (14, .int .i64 v78), (18, .pointer (some ⟨3, 0, none⟩)), (121, .agg ⟨[.int .i64 v179, .int .i64 v180]⟩), (122, .int .i64 r187), (123, .int .i64 p6), (124, .bool (decide (r187 ≤ p6)))])) (h1 := [.cells 23 [.int .i64 p4, .int .i64 p5], .cells 3 [.int .i64 p6], .cells 108 [.int .i64 r10.1.1.1, .int .i64 r10.1.1.2, .int .i64 r10.1.2.1, .int .i64 r10.1.2.2, .int .i64 r10.2.1.1, .int .i64 r10.2.1.2, .int .i64 r10.2.2.1, .int .i64 r10.2.2.2], .cells 23 [.int .i64 v179, .int .i64 v180]]) (a2 := (st 134 [(4, .pointer (some ⟨0, 0, none⟩)), (5, .pointer (some ⟨1, 0, none⟩)), (10, .pointer (some ⟨2, 0, none⟩)), (11, .int .i64 r16), (12, .int .i64 r18), (13, .int .i64 v178), (14, .int .i64 v78), (18, .pointer (some ⟨3, 0, none⟩)), (124, .bool (decide (r187 ≤ p6)))])) (h2 := [.cells 23 [.int .i64 p4, .int .i64 p5], .cells 3 [.int .i64 p6], .cells 108 [.int .i64 r10.1.1.1, .int .i64 r10.1.1.2, .int .i64 r10.1.2.1, .int .i64 r10.1.2.2, .int .i64 r10.2.1.1, .int .i64 r10.2.1.2, .int .i64 r10.2.2.1, .int .i64 r10.2.2.2], .cells 23 [.int .i64 v179, .int .i64 v180]]) [⟨63, [.agg ⟨[.int .i64 v179, .int .i64 v180]⟩], [.cells 23 [.int .i64 p4, .int .i64 p5], .cells 3 [.int .i64 p6], .cells 108 [.int .i64 r10.1.1.1, .int .i64 r10.1.1.2, .int .i64 r10.1.2.1, .int .i64 r10.1.2.2, .int .i64 r10.2.1.1, .int .i64 r10.2.1.2, .int .i64 r10.2.2.1, .int .i64 r10.2.2.2], .cells 23 [.int .i64 v179, .int .i64 v180]], .int .i64 r187, []⟩] hT mixed (by kernel_rfl) rfl 3 (by kernel_rfl) [] ?_ rfl (.inl ⟨rfl, rfl⟩) ?_ [4, 5, 10, 11, 12, 13, 14, 18, 124] [0, 1, 2, 3] (by kernel_rfl) ?_
  · refine QI.run (s1 := ({ act := (st 134 [(4, .pointer (some ⟨0, 0, none⟩)), (5, .pointer (some ⟨1, 0, none⟩)), (10, .pointer (some ⟨2, 0, none⟩)), (11, .int .i64 r16), (12, .int .i64 r18), (13, .int .i64 v178), (14, .int .i64 v78), (18, .pointer (some ⟨3, 0, none⟩)), (121, .agg ⟨[.int .i64 v179, .int .i64 v180]⟩)]), heap := [.cells 23 [.int .i64 p4, .int .i64 p5], .cells 3 [.int .i64 p6], .cells 108 [.int .i64 r10.1.1.1, .int .i64 r10.1.1.2, .int .i64 r10.1.2.1, .int .i64 r10.1.2.2, .int .i64 r10.2.1.1, .int .i64 r10.2.1.2, .int .i64 r10.2.2.1, .int .i64 r10.2.2.2], .cells 23 [.int .i64 v179, .int .i64 v180]], own := [], upds := [] } : QSt)) 1 (by kernel_rfl) (by kernel_rfl) ?_
    refine QI.op (q := { val := .int .i64 r187, new := [] }) (s1 := ({ act := (st 134 [(4, .pointer (some ⟨0, 0, none⟩)), (5, .pointer (some ⟨1, 0, none⟩)), (10, .pointer (some ⟨2, 0, none⟩)), (11, .int .i64 r16), (12, .int .i64 r18), (13, .int .i64 v178), (14, .int .i64 v78), (18, .pointer (some ⟨3, 0, none⟩)), (121, .agg ⟨[.int .i64 v179, .int .i64 v180]⟩), (122, .int .i64 r187)]), heap := [.cells 23 [.int .i64 p4, .int .i64 p5], .cells 3 [.int .i64 p6], .cells 108 [.int .i64 r10.1.1.1, .int .i64 r10.1.1.2, .int .i64 r10.1.2.1, .int .i64 r10.1.2.2, .int .i64 r10.2.1.1, .int .i64 r10.2.1.2, .int .i64 r10.2.2.1, .int .i64 r10.2.2.2], .cells 23 [.int .i64 v179, .int .i64 v180]], own := [], upds := [] } : QSt)) (by decide) (qOf_call (g := 63) (args := [.agg ⟨[.int .i64 v179, .int .i64 v180]⟩]) (by kernel_rfl) lookC_hit) (by kernel_rfl) ?_
    refine QI.run (s1 := ({ act := (st 134 [(4, .pointer (some ⟨0, 0, none⟩)), (5, .pointer (some ⟨1, 0, none⟩)), (10, .pointer (some ⟨2, 0, none⟩)), (11, .int .i64 r16), (12, .int .i64 r18), (13, .int .i64 v178), (14, .int .i64 v78), (18, .pointer (some ⟨3, 0, none⟩)), (121, .agg ⟨[.int .i64 v179, .int .i64 v180]⟩), (122, .int .i64 r187), (123, .int .i64 p6)]), heap := [.cells 23 [.int .i64 p4, .int .i64 p5], .cells 3 [.int .i64 p6], .cells 108 [.int .i64 r10.1.1.1, .int .i64 r10.1.1.2, .int .i64 r10.1.2.1, .int .i64 r10.1.2.2, .int .i64 r10.2.1.1, .int .i64 r10.2.1.2, .int .i64 r10.2.2.1, .int .i64 r10.2.2.2], .cells 23 [.int .i64 v179, .int .i64 v180]], own := [], upds := [] } : QSt)) 1 (by kernel_rfl) (by kernel_rfl) ?_
    exact QI.done (by kernel_rfl)
  · refine SI.run (a2 := (st 134 [(4, .pointer (some ⟨0, 0, none⟩)), (5, .pointer (some ⟨1, 0, none⟩)), (10, .pointer (some ⟨2, 0, none⟩)), (11, .int .i64 r16), (12, .int .i64 r18), (13, .int .i64 v178), (14, .int .i64 v78), (18, .pointer (some ⟨3, 0, none⟩)), (121, .agg ⟨[.int .i64 v179, .int .i64 v180]⟩), (122, .int .i64 r187), (123, .int .i64 p6), (124, .bool (decide (r187 ≤ p6)))])) (h2 := [.cells 23 [.int .i64 p4, .int .i64 p5], .cells 3 [.int .i64 p6], .cells 108 [.int .i64 r10.1.1.1, .int .i64 r10.1.1.2, .int .i64 r10.1.2.1, .int .i64 r10.1.2.2, .int .i64 r10.2.1.1, .int .i64 r10.2.1.2, .int .i64 r10.2.2.1, .int .i64 r10.2.2.2], .cells 23 [.int .i64 v179, .int .i64 v180]]) 1 (by kernel_rfl) ?_
    exact SI.done (by kernel_rfl)
  refine TS.cond' (o := (.tmp 124)) (x := c34.s2.s2.s2.s2.s2.s2.s2.s2.s2.s1.s2.bd.bd.s2.s1.bd.s2.s2.s2.s2.bd.bd.s1.s2.th) (y := c34.s2.s2.s2.s2.s2.s2.s2.s2.s2.s1.s2.bd.bd.s2.s1.bd.s2.s2.s2.s2.bd.bd.s1.s2.el) (b := decide (r187 ≤ p6)) (by kernel_rfl) (by kernel_rfl) (fun hc189 => ?_) (fun hc189 => ?_)
  · replace hF := of_pos hF hc189
    refine TS.skip' (by kernel_rfl) ?_
    refine NX.sq ?_
    refine TS.seq' (x := c34.s2.s2.s2.s2.s2.s2.s2.s2.s2.s1.s2.bd.bd.s2.s1.bd.s2.s2.s2.s2.bd.bd.s2.s1) (y := c34.s2.s2.s2.s2.s2.s2.s2.s2.s2.s1.s2.bd.bd.s2.s1.bd.s2.s2.s2.s2.bd.bd.s2.s2) (by kernel_rfl) ?_
    refine TS.block' (id := 6) (x := c34.s2.s2.s2.s2.s2.s2.s2.s2.s2.s1.s2.bd.bd.s2.s1.bd.s2.s2.s2.s2.bd.bd.s2.s1.bd) (by kernel_rfl) ?_
    refine TS.region' (id := 28) (b := false) (ops := c34.s2.s2.s2.s2.s2.s2.s2.s2.s2.s1.s2.bd.bd.s2.s1.bd.s2.s2.s2.s2.bd.bd.s2.s1.bd.rops) (by kernel_rfl) rfl ?_
    refine TI.run 3 [4, 5, 10, 11, 12, 13, 14, 18] [0, 1, 2, 3] (a2 := (st 134 [(4, .pointer (some ⟨0, 0, none⟩)), (5, .pointer (some ⟨1, 0, none⟩)), (10, .pointer (some ⟨2, 0, none⟩)), (11, .int .i64 r16), (12, .int .i64 r18), (13, .int .i64 (w64 (v178 + 1))), (14, .int .i64 v78), (18, .pointer (some ⟨3, 0, none⟩))])) (h2 := [.cells 23 [.int .i64 p4, .int .i64 p5], .cells 3 [.int .i64 p6], .cells 108 [.int .i64 r10.1.1.1, .int .i64 r10.1.1.2, .int .i64 r10.1.2.1, .int .i64 r10.1.2.2, .int .i64 r10.2.1.1, .int .i64 r10.2.1.2, .int .i64 r10.2.2.1, .int .i64 r10.2.2.2], .cells 23 [.int .i64 v179, .int .i64 v180]]) (by kernel_rfl) ?_
    refine TI.done (by kernel_rfl) ?_
    refine NX.bk ?_
    refine NX.sq ?_
    refine TS.seq' (x := c34.s2.s2.s2.s2.s2.s2.s2.s2.s2.s1.s2.bd.bd.s2.s1.bd.s2.s2.s2.s2.bd.bd.s2.s2.s1) (y := c34.s2.s2.s2.s2.s2.s2.s2.s2.s2.s1.s2.bd.bd.s2.s1.bd.s2.s2.s2.s2.bd.bd.s2.s2.s2) (by kernel_rfl) ?_
    refine TS.seq' (x := c34.s2.s2.s2.s2.s2.s2.s2.s2.s2.s1.s2.bd.bd.s2.s1.bd.s2.s2.s2.s2.bd.bd.s2.s2.s1.s1) (y := c34.s2.s2.s2.s2.s2.s2.s2.s2.s2.s1.s2.bd.bd.s2.s1.bd.s2.s2.s2.s2.bd.bd.s2.s2.s1.s2) (by kernel_rfl) ?_
    refine TS.region' (id := 29) (b := false) (ops := c34.s2.s2.s2.s2.s2.s2.s2.s2.s2.s1.s2.bd.bd.s2.s1.bd.s2.s2.s2.s2.bd.bd.s2.s2.s1.s1.rops) (by kernel_rfl) rfl ?_
    refine TI.run 1 [4, 5, 10, 11, 12, 13, 14, 132] [0, 1, 2] (a2 := (st 134 [(4, .pointer (some ⟨0, 0, none⟩)), (5, .pointer (some ⟨1, 0, none⟩)), (10, .pointer (some ⟨2, 0, none⟩)), (11, .int .i64 r16), (12, .int .i64 r18), (13, .int .i64 (w64 (v178 + 1))), (14, .int .i64 v78), (132, .agg ⟨[.int .i64 v179, .int .i64 v180]⟩)])) (h2 := [.cells 23 [.int .i64 p4, .int .i64 p5], .cells 3 [.int .i64 p6], .cells 108 [.int .i64 r10.1.1.1, .int .i64 r10.1.1.2, .int .i64 r10.1.2.1, .int .i64 r10.1.2.2, .int .i64 r10.2.1.1, .int .i64 r10.2.1.2, .int .i64 r10.2.2.1, .int .i64 r10.2.2.2], .dead]) (by kernel_rfl) ?_
    refine TI.done (by kernel_rfl) ?_
    refine NX.sq ?_
    refine TS.region' (id := 30) (b := false) (ops := c34.s2.s2.s2.s2.s2.s2.s2.s2.s2.s1.s2.bd.bd.s2.s1.bd.s2.s2.s2.s2.bd.bd.s2.s2.s1.s2.rops) (by kernel_rfl) rfl ?_
    refine TI.run 2 [4, 5, 10, 11, 12, 13, 14, 18] [0, 1, 2, 4] (a2 := (st 134 [(4, .pointer (some ⟨0, 0, none⟩)), (5, .pointer (some ⟨1, 0, none⟩)), (10, .pointer (some ⟨2, 0, none⟩)), (11, .int .i64 r16), (12, .int .i64 r18), (13, .int .i64 (w64 (v178 + 1))), (14, .int .i64 v78), (18, .pointer (some ⟨4, 0, none⟩))])) (h2 := [.cells 23 [.int .i64 p4, .int .i64 p5], .cells 3 [.int .i64 p6], .cells 108 [.int .i64 r10.1.1.1, .int .i64 r10.1.1.2, .int .i64 r10.1.2.1, .int .i64 r10.1.2.2, .int .i64 r10.2.1.1, .int .i64 r10.2.1.2, .int .i64 r10.2.2.1, .int .i64 r10.2.2.2], .dead, .cells 23 [.int .i64 v179, .int .i64 v180]]) (by kernel_rfl) ?_
    refine TI.done (by kernel_rfl) ?_
    refine NX.sq ?_
    have hX := of_do hF
    clear hF
    obtain ⟨r190, h191, hF⟩ := hX
    refine TS.region' (id := 27) (b := false) (ops := c34.s2.s2.s2.s2.s2.s2.s2.s2.s2.s1.s2.bd.bd.s2.s1.bd.s2.s2.s2.s2.bd.bd.s2.s2.s2.rops) (by kernel_rfl) rfl ?_
    refine TI.run 4 [4, 5, 10, 11, 12, 13, 14, 18, 125, 128] [0, 1, 2, 4] (a2 := (st 134 [(4, .pointer (some ⟨0, 0, none⟩)), (5, .pointer (some ⟨1, 0, none⟩)), (10, .pointer (some ⟨2, 0, none⟩)), (11, .int .i64 r16), (12, .int .i64 r18), (13, .int .i64 (w64 (v178 + 1))), (14, .int .i64 v78), (18, .pointer (some ⟨4, 0, none⟩)), (125, .agg ⟨[.int .i64 v179, .int .i64 v180]⟩), (128, .agg ⟨[.int .i64 r10.1.1.1, .int .i64 r10.1.1.2]⟩)])) (h2 := [.cells 23 [.int .i64 p4, .int .i64 p5], .cells 3 [.int .i64 p6], .cells 108 [.int .i64 r10.1.1.1, .int .i64 r10.1.1.2, .int .i64 r10.1.2.1, .int .i64 r10.1.2.2, .int .i64 r10.2.1.1, .int .i64 r10.2.1.2, .int .i64 r10.2.2.1, .int .i64 r10.2.2.2], .dead, .cells 23 [.int .i64 v179, .int .i64 v180]]) (by kernel_rfl) ?_
    refine TI.callM (g := 53) (args := [.agg ⟨[.int .i64 v179, .int .i64 v180]⟩, .int .i64 (-1), .agg ⟨[.int .i64 r10.1.1.1, .int .i64 r10.1.1.2]⟩]) (v := .agg ⟨[.int .i64 r190.1, .int .i64 r190.2]⟩) (new := []) (by kernel_rfl) (PureSim.any (C53 v179 v180 (-1) r10.1.1.1 r10.1.1.2 r190 h191) (flatL (by kernel_rfl)) (by kernel_rfl) [.cells 23 [.int .i64 p4, .int .i64 p5], .cells 3 [.int .i64 p6], .cells 108 [.int .i64 r10.1.1.1, .int .i64 r10.1.1.2, .int .i64 r10.1.2.1, .int .i64 r10.1.2.2, .int .i64 r10.2.1.1, .int .i64 r10.2.1.2, .int .i64 r10.2.2.1, .int .i64 r10.2.2.2], .dead, .cells 23 [.int .i64 v179, .int .i64 v180]]) [4, 5, 10, 11, 12, 13, 14, 18, 129] [0, 1, 2, 4] (a2 := (st 134 [(4, .pointer (some ⟨0, 0, none⟩)), (5, .pointer (some ⟨1, 0, none⟩)), (10, .pointer (some ⟨2, 0, none⟩)), (11, .int .i64 r16), (12, .int .i64 r18), (13, .int .i64 (w64 (v178 + 1))), (14, .int .i64 v78), (18, .pointer (some ⟨4, 0, none⟩)), (129, .agg ⟨[.int .i64 r190.1, .int .i64 r190.2]⟩)])) (h2 := [.cells 23 [.int .i64 p4, .int .i64 p5], .cells 3 [.int .i64 p6], .cells 108 [.int .i64 r10.1.1.1, .int .i64 r10.1.1.2, .int .i64 r10.1.2.1, .int .i64 r10.1.2.2, .int .i64 r10.2.1.1, .int .i64 r10.2.1.2, .int .i64 r10.2.2.1, .int .i64 r10.2.2.2], .dead, .cells 23 [.int .i64 v179, .int .i64 v180]]) (by kernel_rfl) ?_
    refine TI.run 1 [4, 5, 10, 11, 12, 13, 14, 18] [0, 1, 2, 4] (a2 := (st 134 [(4, .pointer (some ⟨0, 0, none⟩)), (5, .pointer (some ⟨1, 0, none⟩)), (10, .pointer (some ⟨2, 0, none⟩)), (11, .int .i64 r16), (12, .int .i64 r18), (13, .int .i64 (w64 (v178 + 1))), (14, .int .i64 v78), (18, .pointer (some ⟨4, 0, none⟩))])) (h2 := [.cells 23 [.int .i64 p4, .int .i64 p5], .cells 3 [.int .i64 p6], .cells 108 [.int .i64 r10.1.1.1, .int .i64 r10.1.1.2, .int .i64 r10.1.2.1, .int .i64 r10.1.2.2, .int .i64 r10.2.1.1, .int .i64 r10.2.1.2, .int .i64 r10.2.2.1, .int .i64 r10.2.2.2], .dead, .cells 23 [.int .i64 r190.1, .int .i64 r190.2]]) (by kernel_rfl) ?_
    refine TI.done (by kernel_rfl) ?_
    exact Rd.again (a2 := (st 134 [(4, .pointer (some ⟨0, 0, none⟩)), (5, .pointer (some ⟨1, 0, none⟩)), (10, .pointer (some ⟨2, 0, none⟩)), (11, .int .i64 r16), (12, .int .i64 r18), (13, .int .i64 (w64 (v178 + 1))), (14, .int .i64 v78), (18, .pointer (some ⟨3, 0, none⟩))])) (h2 := [.cells 23 [.int .i64 p4, .int .i64 p5], .cells 3 [.int .i64 p6], .cells 108 [.int .i64 r10.1.1.1, .int .i64 r10.1.1.2, .int .i64 r10.1.2.1, .int .i64 r10.1.2.2, .int .i64 r10.2.1.1, .int .i64 r10.2.1.2, .int .i64 r10.2.2.1, .int .i64 r10.2.2.2], .cells 23 [.int .i64 r190.1, .int .i64 r190.2]]) (Wk.anew (base := 0) (L := 0) (f := [0, 1, 2, 4]) (by decide) (by decide) (Nat.le_of_ble_eq_true rfl) rfl (.cons (At.blk (by kernel_rfl) (RnB.lit (.cons (.flat (by kernel_rfl)) (.cons (.flat (by kernel_rfl)) .nil)))) (.cons (At.blk (by kernel_rfl) (RnB.lit (.cons (.flat (by kernel_rfl)) .nil))) (.cons (At.blk (by kernel_rfl) (RnB.lit (.cons (.flat (by kernel_rfl)) (.cons (.flat (by kernel_rfl)) (.cons (.flat (by kernel_rfl)) (.cons (.flat (by kernel_rfl)) (.cons (.flat (by kernel_rfl)) (.cons (.flat (by kernel_rfl)) (.cons (.flat (by kernel_rfl)) (.cons (.flat (by kernel_rfl)) .nil)))))))))) (.cons (At.blk (by kernel_rfl) (RnB.lit (.cons (.flat (by kernel_rfl)) (.cons (.flat (by kernel_rfl)) .nil)))) (.nil _))))) (LRn.stx [4, 5, 10, 11, 12, 13, 14, 18] [.pointer (some ⟨0, 0, none⟩), .pointer (some ⟨1, 0, none⟩), .pointer (some ⟨2, 0, none⟩), .int .i64 r16, .int .i64 r18, .int .i64 (w64 (v178 + 1)), .int .i64 v78, .pointer (some ⟨3, 0, none⟩)] [.pointer (some ⟨0, 0, none⟩), .pointer (some ⟨1, 0, none⟩), .pointer (some ⟨2, 0, none⟩), .int .i64 r16, .int .i64 r18, .int .i64 (w64 (v178 + 1)), .int .i64 v78, .pointer (some ⟨4, 0, none⟩)] (.cons (Rn.ptr _ _ _ (Nat.le_of_ble_eq_true rfl) rfl) (.cons (Rn.ptr _ _ _ (Nat.le_of_ble_eq_true rfl) rfl) (.cons (Rn.ptr _ _ _ (Nat.le_of_ble_eq_true rfl) rfl) (.cons (.flat (by kernel_rfl)) (.cons (.flat (by kernel_rfl)) (.cons (.flat (by kernel_rfl)) (.cons (.flat (by kernel_rfl)) (.cons (Rn.ptr _ _ _ (Nat.le_of_ble_eq_true rfl) rfl) .nil)))))))) (by kernel_rfl) (by kernel_rfl) rfl) rfl rfl) (ih (w64 (v178 + 1)) r190.1 r190.2 _ hF)
  · replace hF := of_neg hF hc189
    refine TS.exit' (id := 5) (by kernel_rfl) ?_
    refine NX.sqX ?_
    have hF := Option.some.inj hF
    subst hF
    exact Rd.out (e := .exit 5) (by intro h; cases h) (And.intro rfl (Wk.anew (base := 0) (L := 0) (f := [0, 1, 2]) (by decide) (by decide) (Nat.le_of_ble_eq_true rfl) rfl (.cons (At.blk (by kernel_rfl) (RnB.lit (.cons (.flat (by kernel_rfl)) (.cons (.flat (by kernel_rfl)) .nil)))) (.cons (At.blk (by kernel_rfl) (RnB.lit (.cons (.flat (by kernel_rfl)) .nil))) (.cons (At.blk (by kernel_rfl) (RnB.lit (.cons (.flat (by kernel_rfl)) (.cons (.flat (by kernel_rfl)) (.cons (.flat (by kernel_rfl)) (.cons (.flat (by kernel_rfl)) (.cons (.flat (by kernel_rfl)) (.cons (.flat (by kernel_rfl)) (.cons (.flat (by kernel_rfl)) (.cons (.flat (by kernel_rfl)) .nil)))))))))) (.nil _)))) (LRn.stx [4, 5, 10, 11, 12, 13, 14] [.pointer (some ⟨0, 0, none⟩), .pointer (some ⟨1, 0, none⟩), .pointer (some ⟨2, 0, none⟩), .int .i64 r16, .int .i64 r18, .int .i64 v178, .int .i64 v78] [.pointer (some ⟨0, 0, none⟩), .pointer (some ⟨1, 0, none⟩), .pointer (some ⟨2, 0, none⟩), .int .i64 r16, .int .i64 r18, .int .i64 v178, .int .i64 v78] (.cons (Rn.ptr _ _ _ (Nat.le_of_ble_eq_true rfl) rfl) (.cons (Rn.ptr _ _ _ (Nat.le_of_ble_eq_true rfl) rfl) (.cons (Rn.ptr _ _ _ (Nat.le_of_ble_eq_true rfl) rfl) (.cons (.flat (by kernel_rfl)) (.cons (.flat (by kernel_rfl)) (.cons (.flat (by kernel_rfl)) (.cons (.flat (by kernel_rfl)) .nil))))))) (by kernel_rfl) (by kernel_rfl) rfl) rfl rfl))
def P34l0 (p4 : Int) (p5 : Int) (p6 : Int) (r10 : (((Int × Int) × (Int × Int)) × (Int × Int) × (Int × Int))) (r16 : Int) (r18 : Int) (r : Int) : Post := fun e a h => e = .exit 1 ∧ Wk Try.prog 0 0 a h (st 134 [(13, .int .i64 r)]) []
theorem L34l0 (p4 : Int) (p5 : Int) (p6 : Int) (r10 : (((Int × Int) × (Int × Int)) × (Int × Int) × (Int × Int))) (r16 : Int) (r18 : Int) (v77 : Int) (v78 : Int) (r : Int) (hF : F34l0 p4 p5 p6 r10 r16 r18 v77 v78 = some r) : TL Try.prog 0 0 c34.s2.s2.s2.s2.s2.s2.s2.s2.s2.s1.s2.bd.bd (st 134 [(4, .pointer (some ⟨0, 0, none⟩)), (5, .pointer (some ⟨1, 0, none⟩)), (10, .pointer (some ⟨2, 0, none⟩)), (11, .int .i64 r16), (12, .int .i64 r18), (13, .int .i64 v77), (14, .int .i64 v78)]) [.cells 23 [.int .i64 p4, .int .i64 p5], .cells 3 [.int .i64 p6], .cells 108 [.int .i64 r10.1.1.1, .int .i64 r10.1.1.2, .int .i64 r10.1.2.1, .int .i64 r10.1.2.2, .int .i64 r10.2.1.1, .int .i64 r10.2.1.2, .int .i64 r10.2.2.1, .int .i64 r10.2.2.2]] (P34l0 p4 p5 p6 r10 r16 r18 r) := by
  refine F34l0.partial_correctness p4 p5 p6 r10 r16 r18 (motive := fun v77 v78 r => TL Try.prog 0 0 c34.s2.s2.s2.s2.s2.s2.s2.s2.s2.s1.s2.bd.bd (st 134 [(4, .pointer (some ⟨0, 0, none⟩)), (5, .pointer (some ⟨1, 0, none⟩)), (10, .pointer (some ⟨2, 0, none⟩)), (11, .int .i64 r16), (12, .int .i64 r18), (13, .int .i64 v77), (14, .int .i64 v78)]) [.cells 23 [.int .i64 p4, .int .i64 p5], .cells 3 [.int .i64 p6], .cells 108 [.int .i64 r10.1.1.1, .int .i64 r10.1.1.2, .int .i64 r10.1.2.1, .int .i64 r10.1.2.2, .int .i64 r10.2.1.1, .int .i64 r10.2.1.2, .int .i64 r10.2.2.1, .int .i64 r10.2.2.2]] (P34l0 p4 p5 p6 r10 r16 r18 r)) ?_ v77 v78 r hF
  clear hF r v77 v78
  intro again ih v77 v78 r hF
  refine TL.round ?_
  refine TS.seq' (x := c34.s2.s2.s2.s2.s2.s2.s2.s2.s2.s1.s2.bd.bd.s1) (y := c34.s2.s2.s2.s2.s2.s2.s2.s2.s2.s1.s2.bd.bd.s2) (by kernel_rfl) ?_
  refine TS.seq' (x := c34.s2.s2.s2.s2.s2.s2.s2.s2.s2.s1.s2.bd.bd.s1.s1) (y := c34.s2.s2.s2.s2.s2.s2.s2.s2.s2.s1.s2.bd.bd.s1.s2) (by kernel_rfl) ?_
  refine TS.region' (id := 15) (b := false) (ops := c34.s2.s2.s2.s2.s2.s2.s2.s2.s2.s1.s2.bd.bd.s1.s1.rops) (by kernel_rfl) rfl ?_
  refine TI.run 6 [4, 5, 10, 11, 12, 13, 14, 70] [0, 1, 2] (a2 := (st 134 [(4, .pointer (some ⟨0, 0, none⟩)), (5, .pointer (some ⟨1, 0, none⟩)), (10, .pointer (some ⟨2, 0, none⟩)), (11, .int .i64 r16), (12, .int .i64 r18), (13, .int .i64 v77), (14, .int .i64 v78), (70, .bool (decide (v78 ≤ (w64 ((w64 (r16 + r18)) + 1)))))])) (h2 := [.cells 23 [.int .i64 p4, .int .i64 p5], .cells 3 [.int .i64 p6], .cells 108 [.int .i64 r10.1.1.1, .int .i64 r10.1.1.2, .int .i64 r10.1.2.1, .int .i64 r10.1.2.2, .int .i64 r10.2.1.1, .int .i64 r10.2.1.2, .int .i64 r10.2.2.1, .int .i64 r10.2.2.2]]) (by kernel_rfl) ?_
  refine TI.done (by kernel_rfl) ?_
  refine NX.sq ?_
  refine TS.cond' (o := (.tmp 70)) (x := c34.s2.s2.s2.s2.s2.s2.s2.s2.s2.s1.s2.bd.bd.s1.s2.th) (y := c34.s2.s2.s2.s2.s2.s2.s2.s2.s2.s1.s2.bd.bd.s1.s2.el) (b := decide (v78 ≤ (w64 ((w64 (r16 + r18)) + 1)))) (by kernel_rfl) (by kernel_rfl) (fun hc137 => ?_) (fun hc137 => ?_)
  · replace hF := of_pos hF hc137
    refine TS.skip' (by kernel_rfl) ?_
    refine NX.sq ?_
    refine TS.seq' (x := c34.s2.s2.s2.s2.s2.s2.s2.s2.s2.s1.s2.bd.bd.s2.s1) (y := c34.s2.s2.s2.s2.s2.s2.s2.s2.s2.s1.s2.bd.bd.s2.s2) (by kernel_rfl) ?_
    refine TS.block' (id := 2) (x := c34.s2.s2.s2.s2.s2.s2.s2.s2.s2.s1.s2.bd.bd.s2.s1.bd) (by kernel_rfl) ?_
    refine TS.seq' (x := c34.s2.s2.s2.s2.s2.s2.s2.s2.s2.s1.s2.bd.bd.s2.s1.bd.s1) (y := c34.s2.s2.s2.s2.s2.s2.s2.s2.s2.s1.s2.bd.bd.s2.s1.bd.s2) (by kernel_rfl) ?_
    have hX := of_do hF
    clear hF
    obtain ⟨r138, h139, hF⟩ := hX
    refine TS.region' (id := 17) (b := false) (ops := c34.s2.s2.s2.s2.s2.s2.s2.s2.s2.s1.s2.bd.bd.s2.s1.bd.s1.rops) (by kernel_rfl) rfl ?_
    refine TI.run 5 [4, 5, 10, 11, 12, 13, 14, 73, 74, 77] [0, 1, 2] (a2 := (st 134 [(4, .pointer (some ⟨0, 0, none⟩)), (5, .pointer (some ⟨1, 0, none⟩)), (10, .pointer (some ⟨2, 0, none⟩)), (11, .int .i64 r16), (12, .int .i64 r18), (13, .int .i64 v77), (14, .int .i64 v78), (73, .agg ⟨[.int .i64 p4, .int .i64 p5]⟩), (74, .int .i64 v78), (77, .agg ⟨[.int .i64 r10.1.2.1, .int .i64 r10.1.2.2]⟩)])) (h2 := [.cells 23 [.int .i64 p4, .int .i64 p5], .cells 3 [.int .i64 p6], .cells 108 [.int .i64 r10.1.1.1, .int .i64 r10.1.1.2, .int .i64 r10.1.2.1, .int .i64 r10.1.2.2, .int .i64 r10.2.1.1, .int .i64 r10.2.1.2, .int .i64 r10.2.2.1, .int .i64 r10.2.2.2]]) (by kernel_rfl) ?_
    refine TI.callM (g := 53) (args := [.agg ⟨[.int .i64 p4, .int .i64 p5]⟩, .int .i64 v78, .agg ⟨[.int .i64 r10.1.2.1, .int .i64 r10.1.2.2]⟩]) (v := .agg ⟨[.int .i64 r138.1, .int .i64 r138.2]⟩) (new := []) (by kernel_rfl) (PureSim.any (C53 p4 p5 v78 r10.1.2.1 r10.1.2.2 r138 h139) (flatL (by kernel_rfl)) (by kernel_rfl) [.cells 23 [.int .i64 p4, .int .i64 p5], .cells 3 [.int .i64 p6], .cells 108 [.int .i64 r10.1.1.1, .int .i64 r10.1.1.2, .int .i64 r10.1.2.1, .int .i64 r10.1.2.2, .int .i64 r10.2.1.1, .int .i64 r10.2.1.2, .int .i64 r10.2.2.1, .int .i64 r10.2.2.2]]) [4, 5, 10, 11, 12, 13, 14, 78] [0, 1, 2] (a2 := (st 134 [(4, .pointer (some ⟨0, 0, none⟩)), (5, .pointer (some ⟨1, 0, none⟩)), (10, .pointer (some ⟨2, 0, none⟩)), (11, .int .i64 r16), (12, .int .i64 r18), (13, .int .i64 v77), (14, .int .i64 v78), (78, .agg ⟨[.int .i64 r138.1, .int .i64 r138.2]⟩)])) (h2 := [.cells 23 [.int .i64 p4, .int .i64 p5], .cells 3 [.int .i64 p6], .cells 108 [.int .i64 r10.1.1.1, .int .i64 r10.1.1.2, .int .i64 r10.1.2.1, .int .i64 r10.1.2.2, .int .i64 r10.2.1.1, .int .i64 r10.2.1.2, .int .i64 r10.2.2.1, .int .i64 r10.2.2.2]]) (by kernel_rfl) ?_
    refine TI.run 2 [4, 5, 10, 11, 12, 13, 14, 15] [0, 1, 2, 3] (a2 := (st 134 [(4, .pointer (some ⟨0, 0, none⟩)), (5, .pointer (some ⟨1, 0, none⟩)), (10, .pointer (some ⟨2, 0, none⟩)), (11, .int .i64 r16), (12, .int .i64 r18), (13, .int .i64 v77), (14, .int .i64 v78), (15, .pointer (some ⟨3, 0, none⟩))])) (h2 := [.cells 23 [.int .i64 p4, .int .i64 p5], .cells 3 [.int .i64 p6], .cells 108 [.int .i64 r10.1.1.1, .int .i64 r10.1.1.2, .int .i64 r10.1.2.1, .int .i64 r10.1.2.2, .int .i64 r10.2.1.1, .int .i64 r10.2.1.2, .int .i64 r10.2.2.1, .int .i64 r10.2.2.2], .cells 23 [.int .i64 r138.1, .int .i64 r138.2]]) (by kernel_rfl) ?_
    refine TI.done (by kernel_rfl) ?_
    refine NX.sq ?_
    refine TS.seq' (x := c34.s2.s2.s2.s2.s2.s2.s2.s2.s2.s1.s2.bd.bd.s2.s1.bd.s2.s1) (y := c34.s2.s2.s2.s2.s2.s2.s2.s2.s2.s1.s2.bd.bd.s2.s1.bd.s2.s2) (by kernel_rfl) ?_
    have hX := of_do hF
    clear hF
    obtain ⟨r140, h141, hF⟩ := hX
    have hX := of_do hF
    clear hF
    obtain ⟨r142, h143, hF⟩ := hX
    have hX := of_do hF
    clear hF
    obtain ⟨r144, h145, hF⟩ := hX
    have hX := of_do hF
    clear hF
    obtain ⟨r146, h147, hF⟩ := hX
    have hT : ∀ e ∈ ([⟨72, [.agg ⟨[.int .i64 r138.1, .int .i64 r138.2]⟩, .agg ⟨[.int .i64 r10.1.1.1, .int .i64 r10.1.1.2]⟩], [.cells 23 [.int .i64 p4, .int .i64 p5], .cells 3 [.int .i64 p6], .cells 108 [.int .i64 r10.1.1.1, .int .i64 r10.1.1.2, .int .i64 r10.1.2.1, .int .i64 r10.1.2.2, .int .i64 r10.2.1.1, .int .i64 r10.2.1.2, .int .i64 r10.2.2.1, .int .i64 r10.2.2.2], .cells 23 [.int .i64 r138.1, .int .i64 r138.2]], .int .i64 r140, []⟩, ⟨63, [.agg ⟨[.int .i64 r10.1.1.1, .int .i64 r10.1.1.2]⟩], [.cells 23 [.int .i64 p4, .int .i64 p5], .cells 3 [.int .i64 p6], .cells 108 [.int .i64 r10.1.1.1, .int .i64 r10.1.1.2, .int .i64 r10.1.2.1, .int .i64 r10.1.2.2, .int .i64 r10.2.1.1, .int .i64 r10.2.1.2, .int .i64 r10.2.2.1, .int .i64 r10.2.2.2], .cells 23 [.int .i64 r138.1, .int .i64 r138.2]], .int .i64 r142, []⟩, ⟨63, [.agg ⟨[.int .i64 r10.1.1.1, .int .i64 r10.1.1.2]⟩], [.cells 23 [.int .i64 p4, .int .i64 p5], .cells 3 [.int .i64 p6], .cells 108 [.int .i64 r10.1.1.1, .int .i64 r10.1.1.2, .int .i64 r10.1.2.1, .int .i64 r10.1.2.2, .int .i64 r10.2.1.1, .int .i64 r10.2.1.2, .int .i64 r10.2.2.1, .int .i64 r10.2.2.2], .cells 23 [.int .i64 r138.1, .int .i64 r138.2]], .int .i64 r144, []⟩, ⟨69, [.int .i64 (w64 ((w64 ((-2) * r140)) + r142)), .int .i64 (w64 (2 * r144))], [.cells 23 [.int .i64 p4, .int .i64 p5], .cells 3 [.int .i64 p6], .cells 108 [.int .i64 r10.1.1.1, .int .i64 r10.1.1.2, .int .i64 r10.1.2.1, .int .i64 r10.1.2.2, .int .i64 r10.2.1.1, .int .i64 r10.2.1.2, .int .i64 r10.2.2.1, .int .i64 r10.2.2.2], .cells 23 [.int .i64 r138.1, .int .i64 r138.2]], .int .i64 r146, []⟩] : List Entry), PureSim Try.prog e.g e.args e.h e.v e.new := by
      intro e he
      simp only [List.mem_cons, List.not_mem_nil, or_false] at he
      rcases he with rfl | rfl | rfl | rfl
      · exact (PureSim.any (C72 r138.1 r138.2 r10.1.1.1 r10.1.1.2 r140 h141) (flatL (by kernel_rfl)) (by kernel_rfl) [.cells 23 [.int .i64 p4, .int .i64 p5], .cells 3 [.int .i64 p6], .cells 108 [.int .i64 r10.1.1.1, .int .i64 r10.1.1.2, .int .i64 r10.1.2.1, .int .i64 r10.1.2.2, .int .i64 r10.2.1.1, .int .i64 r10.2.1.2, .int .i64 r10.2.2.1, .int .i64 r10.2.2.2], .cells 23 [.int .i64 r138.1, .int .i64 r138.2]])
      · exact (PureSim.any (C63 r10.1.1.1 r10.1.1.2 r142 h143) (flatL (by kernel_rfl)) (by kernel_rfl) [.cells 23 [.int .i64 p4, .int .i64 p5], .cells 3 [.int .i64 p6], .cells 108 [.int .i64 r10.1.1.1, .int .i64 r10.1.1.2, .int .i64 r10.1.2.1, .int .i64 r10.1.2.2, .int .i64 r10.2.1.1, .int .i64 r10.2.1.2, .int .i64 r10.2.2.1, .int .i64 r10.2.2.2], .cells 23 [.int .i64 r138.1, .int .i64 r138.2]])
      · exact (PureSim.any (C63 r10.1.1.1 r10.1.1.2 r144 h145) (flatL (by kernel_rfl)) (by kernel_rfl) [.cells 23 [.int .i64 p4, .int .i64 p5], .cells 3 [.int .i64 p6], .cells 108 [.int .i64 r10.1.1.1, .int .i64 r10.1.1.2, .int .i64 r10.1.2.1, .int .i64 r10.1.2.2, .int .i64 r10.2.1.1, .int .i64 r10.2.1.2, .int .i64 r10.2.2.1, .int .i64 r10.2.2.2], .cells 23 [.int .i64 r138.1, .int .i64 r138.2]])
      · exact (PureSim.any (C69 (w64 ((w64 ((-2) * r140)) + r142)) (w64 (2 * r144)) r146 h147) (flatL (by kernel_rfl)) (by kernel_rfl) [.cells 23 [.int .i64 p4, .int .i64 p5], .cells 3 [.int .i64 p6], .cells 108 [.int .i64 r10.1.1.1, .int .i64 r10.1.1.2, .int .i64 r10.1.2.1, .int .i64 r10.1.2.2, .int .i64 r10.2.1.1, .int .i64 r10.2.1.2, .int .i64 r10.2.2.1, .int .i64 r10.2.2.2], .cells 23 [.int .i64 r138.1, .int .i64 r138.2]])
    refine TS.draw' (id := 18) (b := true) (ops := c34.s2.s2.s2.s2.s2.s2.s2.s2.s2.s1.s2.bd.bd.s2.s1.bd.s2.s1.rops) (fin := ({ act := (st 134 [(4, .pointer (some ⟨0, 0, none⟩)), (5, .pointer (some ⟨1, 0, none⟩)), (10, .pointer (some ⟨2, 0, none⟩)), (11, .int .i64 r16), (12, .int .i64 r18), (13, .int .i64 v77), (14, .int .i64 v78), (15, .pointer (some ⟨3, 0, none⟩)), (79, .agg ⟨[.int .i64 r138.1, .int .i64 r138.2]⟩), (80, .pointer (some ⟨2, 0, none⟩)), (81, .pointer (some ⟨2, 0, none⟩)), (82, .agg ⟨[.int .i64 r10.1.1.1, .int .i64 r10.1.1.2]⟩), (83, .int .i64 r140), (84, .int .i64 (w64 ((-2) * r140))), (85, .pointer (some ⟨2, 0, none⟩)), (86, .pointer (some ⟨2, 0, none⟩)), (87, .agg ⟨[.int .i64 r10.1.1.1, .int .i64 r10.1.1.2]⟩), (88, .int .i64 r142), (89, .int .i64 (w64 ((w64 ((-2) * r140)) + r142))), (90, .pointer (some ⟨2, 0, none⟩)), (91, .pointer (some ⟨2, 0, none⟩)), (92, .agg ⟨[.int .i64 r10.1.1.1, .int .i64 r10.1.1.2]⟩), (93, .int .i64 r144), (94, .int .i64 (w64 (2 * r144)))]), heap := [.cells 23 [.int .i64 p4, .int .i64 p5], .cells 3 [.int .i64 p6], .cells 108 [.int .i64 r10.1.1.1, .int .i64 r10.1.1.2, .int .i64 r10.1.2.1, .int .i64 r10.1.2.2, .int .i64 r10.2.1.1, .int .i64 r10.2.1.2, .int .i64 r10.2.2.1, .int .i64 r10.2.2.2], .cells 23 [.int .i64 r138.1, .int .i64 r138.2]], own := [], upds := [] } : QSt)) (fin2 := ({ act := (st 134 [(4, .pointer (some ⟨0, 0, none⟩)), (5, .pointer (some ⟨1, 0, none⟩)), (10, .pointer (some ⟨2, 0, none⟩)), (11, .int .i64 r16), (12, .int .i64 r18), (13, .int .i64 v77), (14, .int .i64 v78), (15, .pointer (some ⟨3, 0, none⟩)), (79, .agg ⟨[.int .i64 r138.1, .int .i64 r138.2]⟩), (80, .pointer (some ⟨2, 0, none⟩)), (81, .pointer (some ⟨2, 0, none⟩)), (82, .agg ⟨[.int .i64 r10.1.1.1, .int .i64 r10.1.1.2]⟩), (83, .int .i64 r140), (84, .int .i64 (w64 ((-2) * r140))), (85, .pointer (some ⟨2, 0, none⟩)), (86, .pointer (some ⟨2, 0, none⟩)), (87, .agg ⟨[.int .i64 r10.1.1.1, .int .i64 r10.1.1.2]⟩), (88, .int .i64 r142), (89, .int .i64 (w64 ((w64 ((-2) * r140)) + r142))), (90, .pointer (some ⟨2, 0, none⟩)), (91, .pointer (some ⟨2, 0, none⟩)), (92, .agg ⟨[.int .i64 r10.1.1.1, .int .i64 r10.1.1.2]⟩), (93, .int .i64 r144), (94, .int .i64 (w64 (2 * r144)))]), heap := [.cells 23 [.int .i64 p4, .int .i64 p5], .cells 3 [.int .i64 p6], .cells 108 [.int .i64 r10.1.1.1, .int .i64 r10.1.1.2, .int .i64 r10.1.2.1, .int .i64 r10.1.2.2, .int .i64 r10.2.1.1, .int .i64 r10.2.1.2, .int .i64 r10.2.2.1, .int .i64 r10.2.2.2], .cells 23 [.int .i64 r138.1, .int .i64 r138.2]], own := [], upds := [] } : QSt)) (a1 := (st 134 [(4, .pointer (some ⟨0, 0, none⟩)), (5, .pointer (some ⟨1, 0, none⟩)), (10, .pointer (some ⟨2, 0, none⟩)), (11, .int .i64 r16), (12, .int .i64 r18), (13, .int .i64 v77), (14, .int .i64 v78), (15, .pointer (some ⟨3, 0, none⟩)), (16, .int .i64 r146), (79, .agg ⟨[.int .i64 r138.1, .int .i64 r138.2]⟩), (80, .pointer (some ⟨2, 0, none⟩)), (81, .pointer (some ⟨2, 0, none⟩)), (82, .agg ⟨[.int .i64 r10.1.1.1, .int .i64 r10.1.1.2]⟩), (83, .int .i64 r140), (84, .int .i64 (w64 ((-2) * r140))), (85, .pointer (some ⟨2, 0, none⟩)), (86, .pointer (some ⟨2, 0, none⟩)), (87, .agg ⟨[.int .i64 r10.1.1.1, .int .i64 r10.1.1.2]⟩), (88, .int .i64 r142), (89, .int .i64 (w64 ((w64 ((-2) * r140)) + r142))), (90, .pointer (some ⟨2, 0, none⟩)), (91, .pointer (some ⟨2, 0, none⟩)), (92, .agg ⟨[.int .i64 r10.1.1.1, .int .i64 r10.1.1.2]⟩), (93, .int .i64 r144), (94, .int .i64 (w64 (2 * r144))), (95, .int .i64 r146)])) (h1 := [.cells 23 [.int .i64 p4, .int .i64 p5], .cells 3 [.int .i64 p6], .cells 108 [.int .i64 r10.1.1.1, .int .i64 r10.1.1.2, .int .i64 r10.1.2.1, .int .i64 r10.1.2.2, .int .i64 r10.2.1.1, .int .i64 r10.2.1.2, .int .i64 r10.2.2.1, .int .i64 r10.2.2.2], .cells 23 [.int .i64 r138.1, .int .i64 r138.2]]) (a2 := (st 134 [(4, .pointer (some ⟨0, 0, none⟩)), (5, .pointer (some ⟨1, 0, none⟩)), (10, .pointer (some ⟨2, 0, none⟩)), (11, .int .i64 r16), (12, .int .i64 r18), (13, .int .i64 v77), (14, .int .i64 v78), (15, .pointer (some ⟨3, 0, none⟩)), (16, .int .i64 r146)])) (h2 := [.cells 23 [.int .i64 p4, .int .i64 p5], .cells 3 [.int .i64 p6], .cells 108 [.int .i64 r10.1.1.1, .int .i64 r10.1.1.2, .int .i64 r10.1.2.1, .int .i64 r10.1.2.2, .int .i64 r10.2.1.1, .int .i64 r10.2.1.2, .int .i64 r10.2.2.1, .int .i64 r10.2.2.2], .cells 23 [.int .i64 r138.1, .int .i64 r138.2]]) [⟨72, [.agg ⟨[.int .i64 r138.1, .int .i64 r138.2]⟩, .agg ⟨[.int .i64 r10.1.1.1, .int .i64 r10.1.1.2]⟩], [.cells 23 [.int .i64 p4, .int .i64 p5], .cells 3 [.int .i64 p6], .cells 108 [.int .i64 r10.1.1.1, .int .i64 r10.1.1.2, .int .i64 r10.1.2.1, .int .i64 r10.1.2.2, .int .i64 r10.2.1.1, .int .i64 r10.2.1.2, .int .i64 r10.2.2.1, .int .i64 r10.2.2.2], .cells 23 [.int .i64 r138.1, .int .i64 r138.2]], .int .i64 r140, []⟩, ⟨63, [.agg ⟨[.int .i64 r10.1.1.1, .int .i64 r10.1.1.2]⟩], [.cells 23 [.int .i64 p4, .int .i64 p5], .cells 3 [.int .i64 p6], .cells 108 [.int .i64 r10.1.1.1, .int .i64 r10.1.1.2, .int .i64 r10.1.2.1, .int .i64 r10.1.2.2, .int .i64 r10.2.1.1, .int .i64 r10.2.1.2, .int .i64 r10.2.2.1, .int .i64 r10.2.2.2], .cells 23 [.int .i64 r138.1, .int .i64 r138.2]], .int .i64 r142, []⟩, ⟨63, [.agg ⟨[.int .i64 r10.1.1.1, .int .i64 r10.1.1.2]⟩], [.cells 23 [.int .i64 p4, .int .i64 p5], .cells 3 [.int .i64 p6], .cells 108 [.int .i64 r10.1.1.1, .int .i64 r10.1.1.2, .int .i64 r10.1.2.1, .int .i64 r10.1.2.2, .int .i64 r10.2.1.1, .int .i64 r10.2.1.2, .int .i64 r10.2.2.1, .int .i64 r10.2.2.2], .cells 23 [.int .i64 r138.1, .int .i64 r138.2]], .int .i64 r144, []⟩, ⟨69, [.int .i64 (w64 ((w64 ((-2) * r140)) + r142)), .int .i64 (w64 (2 * r144))], [.cells 23 [.int .i64 p4, .int .i64 p5], .cells 3 [.int .i64 p6], .cells 108 [.int .i64 r10.1.1.1, .int .i64 r10.1.1.2, .int .i64 r10.1.2.1, .int .i64 r10.1.2.2, .int .i64 r10.2.1.1, .int .i64 r10.2.1.2, .int .i64 r10.2.2.1, .int .i64 r10.2.2.2], .cells 23 [.int .i64 r138.1, .int .i64 r138.2]], .int .i64 r146, []⟩] hT mixed (by kernel_rfl) rfl 16 (by kernel_rfl) [] ?_ rfl (.inl ⟨rfl, rfl⟩) ?_ [4, 5, 10, 11, 12, 13, 14, 15, 16] [0, 1, 2, 3] (by kernel_rfl) ?_
    · refine QI.run (s1 := ({ act := (st 134 [(4, .pointer (some ⟨0, 0, none⟩)), (5, .pointer (some ⟨1, 0, none⟩)), (10, .pointer (some ⟨2, 0, none⟩)), (11, .int .i64 r16), (12, .int .i64 r18), (13, .int .i64 v77), (14, .int .i64 v78), (15, .pointer (some ⟨3, 0, none⟩)), (79, .agg ⟨[.int .i64 r138.1, .int .i64 r138.2]⟩), (80, .pointer (some ⟨2, 0, none⟩)), (81, .pointer (some ⟨2, 0, none⟩)), (82, .agg ⟨[.int .i64 r10.1.1.1, .int .i64 r10.1.1.2]⟩)]), heap := [.cells 23 [.int .i64 p4, .int .i64 p5], .cells 3 [.int .i64 p6], .cells 108 [.int .i64 r10.1.1.1, .int .i64 r10.1.1.2, .int .i64 r10.1.2.1, .int .i64 r10.1.2.2, .int .i64 r10.2.1.1, .int .i64 r10.2.1.2, .int .i64 r10.2.2.1, .int .i64 r10.2.2.2], .cells 23 [.int .i64 r138.1, .int .i64 r138.2]], own := [], upds := [] } : QSt)) 4 (by kernel_rfl) (by kernel_rfl) ?_
      refine QI.op (q := { val := .int .i64 r140, new := [] }) (s1 := ({ act := (st 134 [(4, .pointer (some ⟨0, 0, none⟩)), (5, .pointer (some ⟨1, 0, none⟩)), (10, .pointer (some ⟨2, 0, none⟩)), (11, .int .i64 r16), (12, .int .i64 r18), (13, .int .i64 v77), (14, .int .i64 v78), (15, .pointer (some ⟨3, 0, none⟩)), (79, .agg ⟨[.int .i64 r138.1, .int .i64 r138.2]⟩), (80, .pointer (some ⟨2, 0, none⟩)), (81, .pointer (some ⟨2, 0, none⟩)), (82, .agg ⟨[.int .i64 r10.1.1.1, .int .i64 r10.1.1.2]⟩), (83, .int .i64 r140)]), heap := [.cells 23 [.int .i64 p4, .int .i64 p5], .cells 3 [.int .i64 p6], .cells 108 [.int .i64 r10.1.1.1, .int .i64 r10.1.1.2, .int .i64 r10.1.2.1, .int .i64 r10.1.2.2, .int .i64 r10.2.1.1, .int .i64 r10.2.1.2, .int .i64 r10.2.2.1, .int .i64 r10.2.2.2], .cells 23 [.int .i64 r138.1, .int .i64 r138.2]], own := [], upds := [] } : QSt)) (by decide) (qOf_call (g := 72) (args := [.agg ⟨[.int .i64 r138.1, .int .i64 r138.2]⟩, .agg ⟨[.int .i64 r10.1.1.1, .int .i64 r10.1.1.2]⟩]) (by kernel_rfl) lookC_hit) (by kernel_rfl) ?_
      refine QI.run (s1 := ({ act := (st 134 [(4, .pointer (some ⟨0, 0, none⟩)), (5, .pointer (some ⟨1, 0, none⟩)), (10, .pointer (some ⟨2, 0, none⟩)), (11, .int .i64 r16), (12, .int .i64 r18), (13, .int .i64 v77), (14, .int .i64 v78), (15, .pointer (some ⟨3, 0, none⟩)), (79, .agg ⟨[.int .i64 r138.1, .int .i64 r138.2]⟩), (80, .pointer (some ⟨2, 0, none⟩)), (81, .pointer (some ⟨2, 0, none⟩)), (82, .agg ⟨[.int .i64 r10.1.1.1, .int .i64 r10.1.1.2]⟩), (83, .int .i64 r140), (84, .int .i64 (w64 ((-2) * r140))), (85, .pointer (some ⟨2, 0, none⟩)), (86, .pointer (some ⟨2, 0, none⟩)), (87, .agg ⟨[.int .i64 r10.1.1.1, .int .i64 r10.1.1.2]⟩)]), heap := [.cells 23 [.int .i64 p4, .int .i64 p5], .cells 3 [.int .i64 p6], .cells 108 [.int .i64 r10.1.1.1, .int .i64 r10.1.1.2, .int .i64 r10.1.2.1, .int .i64 r10.1.2.2, .int .i64 r10.2.1.1, .int .i64 r10.2.1.2, .int .i64 r10.2.2.1, .int .i64 r10.2.2.2], .cells 23 [.int .i64 r138.1, .int .i64 r138.2]], own := [], upds := [] } : QSt)) 4 (by kernel_rfl) (by kernel_rfl) ?_
      refine QI.op (q := { val := .int .i64 r142, new := [] }) (s1 := ({ act := (st 134 [(4, .pointer (some ⟨0, 0, none⟩)), (5, .pointer (some ⟨1, 0, none⟩)), (10, .pointer (some ⟨2, 0, none⟩)), (11, .int .i64 r16), (12, .int .i64 r18), (13, .int .i64 v77), (14, .int .i64 v78), (15, .pointer (some ⟨3, 0, none⟩)), (79, .agg ⟨[.int .i64 r138.1, .int .i64 r138.2]⟩), (80, .pointer (some ⟨2, 0, none⟩)), (81, .pointer (some ⟨2, 0, none⟩)), (82, .agg ⟨[.int .i64 r10.1.1.1, .int .i64 r10.1.1.2]⟩), (83, .int .i64 r140), (84, .int .i64 (w64 ((-2) * r140))), (85, .pointer (some ⟨2, 0, none⟩)), (86, .pointer (some ⟨2, 0, none⟩)), (87, .agg ⟨[.int .i64 r10.1.1.1, .int .i64 r10.1.1.2]⟩), (88, .int .i64 r142)]), heap := [.cells 23 [.int .i64 p4, .int .i64 p5], .cells 3 [.int .i64 p6], .cells 108 [.int .i64 r10.1.1.1, .int .i64 r10.1.1.2, .int .i64 r10.1.2.1, .int .i64 r10.1.2.2, .int .i64 r10.2.1.1, .int .i64 r10.2.1.2, .int .i64 r10.2.2.1, .int .i64 r10.2.2.2], .cells 23 [.int .i64 r138.1, .int .i64 r138.2]], own := [], upds := [] } : QSt)) (by decide) (qOf_call (g := 63) (args := [.agg ⟨[.int .i64 r10.1.1.1, .int .i64 r10.1.1.2]⟩]) (by kernel_rfl) (lookC_skip (fun hg => absurd (show (72 : Nat) = 63 from hg) (by decide)) lookC_hit)) (by kernel_rfl) ?_
      refine QI.run (s1 := ({ act := (st 134 [(4, .pointer (some ⟨0, 0, none⟩)), (5, .pointer (some ⟨1, 0, none⟩)), (10, .pointer (some ⟨2, 0, none⟩)), (11, .int .i64 r16), (12, .int .i64 r18), (13, .int .i64 v77), (14, .int .i64 v78), (15, .pointer (some ⟨3, 0, none⟩)), (79, .agg ⟨[.int .i64 r138.1, .int .i64 r138.2]⟩), (80, .pointer (some ⟨2, 0, none⟩)), (81, .pointer (some ⟨2, 0, none⟩)), (82, .agg ⟨[.int .i64 r10.1.1.1, .int .i64 r10.1.1.2]⟩), (83, .int .i64 r140), (84, .int .i64 (w64 ((-2) * r140))), (85, .pointer (some ⟨2, 0, none⟩)), (86, .pointer (some ⟨2, 0, none⟩)), (87, .agg ⟨[.int .i64 r10.1.1.1, .int .i64 r10.1.1.2]⟩), (88, .int .i64 r142), (89, .int .i64 (w64 ((w64 ((-2) * r140)) + r142))), (90, .pointer (some ⟨2, 0, none⟩)), (91, .pointer (some ⟨2, 0, none⟩)), (92, .agg ⟨[.int .i64 r10.1.1.1, .int .i64 r10.1.1.2]⟩)]), heap := [.cells 23 [.int .i64 p4, .int .i64 p5], .cells 3 [.int .i64 p6], .cells 108 [.int .i64 r10.1.1.1, .int .i64 r10.1.1.2, .int .i64 r10.1.2.1, .int .i64 r10.1.2.2, .int .i64 r10.2.1.1, .int .i64 r10.2.1.2, .int .i64 r10.2.2.1, .int .i64 r10.2.2.2], .cells 23 [.int .i64 r138.1, .int .i64 r138.2]], own := [], upds := [] } : QSt)) 4 (by kernel_rfl) (by kernel_rfl) ?_
      refine QI.op (q := { val := .int .i64 r144, new := [] }) (s1 := ({ act := (st 134 [(4, .pointer (some ⟨0, 0, none⟩)), (5, .pointer (some ⟨1, 0, none⟩)), (10, .pointer (some ⟨2, 0, none⟩)), (11, .int .i64 r16), (12, .int .i64 r18), (13, .int .i64 v77), (14, .int .i64 v78), (15, .pointer (some ⟨3, 0, none⟩)), (79, .agg ⟨[.int .i64 r138.1, .int .i64 r138.2]⟩), (80, .pointer (some ⟨2, 0, none⟩)), (81, .pointer (some ⟨2, 0, none⟩)), (82, .agg ⟨[.int .i64 r10.1.1.1, .int .i64 r10.1.1.2]⟩), (83, .int .i64 r140), (84, .int .i64 (w64 ((-2) * r140))), (85, .pointer (some ⟨2, 0, none⟩)), (86, .pointer (some ⟨2, 0, none⟩)), (87, .agg ⟨[.int .i64 r10.1.1.1, .int .i64 r10.1.1.2]⟩), (88, .int .i64 r142), (89, .int .i64 (w64 ((w64 ((-2) * r140)) + r142))), (90, .pointer (some ⟨2, 0, none⟩)), (91, .pointer (some ⟨2, 0, none⟩)), (92, .agg ⟨[.int .i64 r10.1.1.1, .int .i64 r10.1.1.2]⟩), (93, .int .i64 r144)]), heap := [.cells 23 [.int .i64 p4, .int .i64 p5], .cells 3 [.int .i64 p6], .cells 108 [.int .i64 r10.1.1.1, .int .i64 r10.1.1.2, .int .i64 r10.1.2.1, .int .i64 r10.1.2.2, .int .i64 r10.2.1.1, .int .i64 r10.2.1.2, .int .i64 r10.2.2.1, .int .i64 r10.2.2.2], .cells 23 [.int .i64 r138.1, .int .i64 r138.2]], own := [], upds := [] } : QSt)) (by decide) (qOf_call (g := 63) (args := [.agg ⟨[.int .i64 r10.1.1.1, .int .i64 r10.1.1.2]⟩]) (by kernel_rfl) (lookC_skip (fun hg => absurd (show (72 : Nat) = 63 from hg) (by decide)) (lookC_skip (by intro _ ha _; have hq := h143; have hi := h145; clear hF; first | (exfalso; simp at ha; done) | ((try simp at ha); have hr := Option.some.inj (hq.symm.trans (Eq.trans (by first | rfl | (congr 1 <;> first | rfl | omega | simp_all)) hi)); subst hr; rfl)) lookC_hit))) (by kernel_rfl) ?_
      refine QI.run (s1 := ({ act := (st 134 [(4, .pointer (some ⟨0, 0, none⟩)), (5, .pointer (some ⟨1, 0, none⟩)), (10, .pointer (some ⟨2, 0, none⟩)), (11, .int .i64 r16), (12, .int .i64 r18), (13, .int .i64 v77), (14, .int .i64 v78), (15, .pointer (some ⟨3, 0, none⟩)), (79, .agg ⟨[.int .i64 r138.1, .int .i64 r138.2]⟩), (80, .pointer (some ⟨2, 0, none⟩)), (81, .pointer (some ⟨2, 0, none⟩)), (82, .agg ⟨[.int .i64 r10.1.1.1, .int .i64 r10.1.1.2]⟩), (83, .int .i64 r140), (84, .int .i64 (w64 ((-2) * r140))), (85, .pointer (some ⟨2, 0, none⟩)), (86, .pointer (some ⟨2, 0, none⟩)), (87, .agg ⟨[.int .i64 r10.1.1.1, .int .i64 r10.1.1.2]⟩), (88, .int .i64 r142), (89, .int .i64 (w64 ((w64 ((-2) * r140)) + r142))), (90, .pointer (some ⟨2, 0, none⟩)), (91, .pointer (some ⟨2, 0, none⟩)), (92, .agg ⟨[.int .i64 r10.1.1.1, .int .i64 r10.1.1.2]⟩), (93, .int .i64 r144), (94, .int .i64 (w64 (2 * r144)))]), heap := [.cells 23 [.int .i64 p4, .int .i64 p5], .cells 3 [.int .i64 p6], .cells 108 [.int .i64 r10.1.1.1, .int .i64 r10.1.1.2, .int .i64 r10.1.2.1, .int .i64 r10.1.2.2, .int .i64 r10.2.1.1, .int .i64 r10.2.1.2, .int .i64 r10.2.2.1, .int .i64 r10.2.2.2], .cells 23 [.int .i64 r138.1, .int .i64 r138.2]], own := [], upds := [] } : QSt)) 1 (by kernel_rfl) (by kernel_rfl) ?_
      exact QI.done (by kernel_rfl)
    · refine SI.op (q := { val := .int .i64 r146, new := [] }) (a2 := (st 134 [(4, .pointer (some ⟨0, 0, none⟩)), (5, .pointer (some ⟨1, 0, none⟩)), (10, .pointer (some ⟨2, 0, none⟩)), (11, .int .i64 r16), (12, .int .i64 r18), (13, .int .i64 v77), (14, .int .i64 v78), (15, .pointer (some ⟨3, 0, none⟩)), (79, .agg ⟨[.int .i64 r138.1, .int .i64 r138.2]⟩), (80, .pointer (some ⟨2, 0, none⟩)), (81, .pointer (some ⟨2, 0, none⟩)), (82, .agg ⟨[.int .i64 r10.1.1.1, .int .i64 r10.1.1.2]⟩), (83, .int .i64 r140), (84, .int .i64 (w64 ((-2) * r140))), (85, .pointer (some ⟨2, 0, none⟩)), (86, .pointer (some ⟨2, 0, none⟩)), (87, .agg ⟨[.int .i64 r10.1.1.1, .int .i64 r10.1.1.2]⟩), (88, .int .i64 r142), (89, .int .i64 (w64 ((w64 ((-2) * r140)) + r142))), (90, .pointer (some ⟨2, 0, none⟩)), (91, .pointer (some ⟨2, 0, none⟩)), (92, .agg ⟨[.int .i64 r10.1.1.1, .int .i64 r10.1.1.2]⟩), (93, .int .i64 r144), (94, .int .i64 (w64 (2 * r144))), (95, .int .i64 r146)])) (h2 := [.cells 23 [.int .i64 p4, .int .i64 p5], .cells 3 [.int .i64 p6], .cells 108 [.int .i64 r10.1.1.1, .int .i64 r10.1.1.2, .int .i64 r10.1.2.1, .int .i64 r10.1.2.2, .int .i64 r10.2.1.1, .int .i64 r10.2.1.2, .int .i64 r10.2.2.1, .int .i64 r10.2.2.2], .cells 23 [.int .i64 r138.1, .int .i64 r138.2]]) (by kernel_rfl) (qOf_call (g := 69) (args := [.int .i64 (w64 ((w64 ((-2) * r140)) + r142)), .int .i64 (w64 (2 * r144))]) (by kernel_rfl) (lookC_skip (fun hg => absurd (show (72 : Nat) = 69 from hg) (by decide)) (lookC_skip (fun hg => absurd (show (63 : Nat) = 69 from hg) (by decide)) (lookC_skip (fun hg => absurd (show (63 : Nat) = 69 from hg) (by decide)) lookC_hit)))) (by kernel_rfl) (by kernel_rfl) ?_
      refine SI.run (a2 := (st 134 [(4, .pointer (some ⟨0, 0, none⟩)), (5, .pointer (some ⟨1, 0, none⟩)), (10, .pointer (some ⟨2, 0, none⟩)), (11, .int .i64 r16), (12, .int .i64 r18), (13, .int .i64 v77), (14, .int .i64 v78), (15, .pointer (some ⟨3, 0, none⟩)), (16, .int .i64 r146), (79, .agg ⟨[.int .i64 r138.1, .int .i64 r138.2]⟩), (80, .pointer (some ⟨2, 0, none⟩)), (81, .pointer (some ⟨2, 0, none⟩)), (82, .agg ⟨[.int .i64 r10.1.1.1, .int .i64 r10.1.1.2]⟩), (83, .int .i64 r140), (84, .int .i64 (w64 ((-2) * r140))), (85, .pointer (some ⟨2, 0, none⟩)), (86, .pointer (some ⟨2, 0, none⟩)), (87, .agg ⟨[.int .i64 r10.1.1.1, .int .i64 r10.1.1.2]⟩), (88, .int .i64 r142), (89, .int .i64 (w64 ((w64 ((-2) * r140)) + r142))), (90, .pointer (some ⟨2, 0, none⟩)), (91, .pointer (some ⟨2, 0, none⟩)), (92, .agg ⟨[.int .i64 r10.1.1.1, .int .i64 r10.1.1.2]⟩), (93, .int .i64 r144), (94, .int .i64 (w64 (2 * r144))), (95, .int .i64 r146)])) (h2 := [.cells 23 [.int .i64 p4, .int .i64 p5], .cells 3 [.int .i64 p6], .cells 108 [.int .i64 r10.1.1.1, .int .i64 r10.1.1.2, .int .i64 r10.1.2.1, .int .i64 r10.1.2.2, .int .i64 r10.2.1.1, .int .i64 r10.2.1.2, .int .i64 r10.2.2.1, .int .i64 r10.2.2.2], .cells 23 [.int .i64 r138.1, .int .i64 r138.2]]) 1 (by kernel_rfl) ?_
      exact SI.done (by kernel_rfl)
    refine TS.seq' (x := c34.s2.s2.s2.s2.s2.s2.s2.s2.s2.s1.s2.bd.bd.s2.s1.bd.s2.s2.s1) (y := c34.s2.s2.s2.s2.s2.s2.s2.s2.s2.s1.s2.bd.bd.s2.s1.bd.s2.s2.s2) (by kernel_rfl) ?_
    refine TS.seq' (x := c34.s2.s2.s2.s2.s2.s2.s2.s2.s2.s1.s2.bd.bd.s2.s1.bd.s2.s2.s1.s1) (y := c34.s2.s2.s2.s2.s2.s2.s2.s2.s2.s1.s2.bd.bd.s2.s1.bd.s2.s2.s1.s2) (by kernel_rfl) ?_
    have hX := of_do hF
    clear hF
    obtain ⟨r148, h149, hF⟩ := hX
    refine TS.region' (id := 19) (b := false) (ops := c34.s2.s2.s2.s2.s2.s2.s2.s2.s2.s1.s2.bd.bd.s2.s1.bd.s2.s2.s1.s1.rops) (by kernel_rfl) rfl ?_
    refine TI.run 5 [4, 5, 10, 11, 12, 13, 14, 15, 16, 96, 97, 100] [0, 1, 2, 3] (a2 := (st 134 [(4, .pointer (some ⟨0, 0, none⟩)), (5, .pointer (some ⟨1, 0, none⟩)), (10, .pointer (some ⟨2, 0, none⟩)), (11, .int .i64 r16), (12, .int .i64 r18), (13, .int .i64 v77), (14, .int .i64 v78), (15, .pointer (some ⟨3, 0, none⟩)), (16, .int .i64 r146), (96, .agg ⟨[.int .i64 r138.1, .int .i64 r138.2]⟩), (97, .int .i64 r146), (100, .agg ⟨[.int .i64 r10.1.1.1, .int .i64 r10.1.1.2]⟩)])) (h2 := [.cells 23 [.int .i64 p4, .int .i64 p5], .cells 3 [.int .i64 p6], .cells 108 [.int .i64 r10.1.1.1, .int .i64 r10.1.1.2, .int .i64 r10.1.2.1, .int .i64 r10.1.2.2, .int .i64 r10.2.1.1, .int .i64 r10.2.1.2, .int .i64 r10.2.2.1, .int .i64 r10.2.2.2], .cells 23 [.int .i64 r138.1, .int .i64 r138.2]]) (by kernel_rfl) ?_
    refine TI.callM (g := 53) (args := [.agg ⟨[.int .i64 r138.1, .int .i64 r138.2]⟩, .int .i64 r146, .agg ⟨[.int .i64 r10.1.1.1, .int .i64 r10.1.1.2]⟩]) (v := .agg ⟨[.int .i64 r148.1, .int .i64 r148.2]⟩) (new := []) (by kernel_rfl) (PureSim.any (C53 r138.1 r138.2 r146 r10.1.1.1 r10.1.1.2 r148 h149) (flatL (by kernel_rfl)) (by kernel_rfl) [.cells 23 [.int .i64 p4, .int .i64 p5], .cells 3 [.int .i64 p6], .cells 108 [.int .i64 r10.1.1.1, .int .i64 r10.1.1.2, .int .i64 r10.1.2.1, .int .i64 r10.1.2.2, .int .i64 r10.2.1.1, .int .i64 r10.2.1.2, .int .i64 r10.2.2.1, .int .i64 r10.2.2.2], .cells 23 [.int .i64 r138.1, .int .i64 r138.2]]) [4, 5, 10, 11, 12, 13, 14, 15, 16, 101] [0, 1, 2, 3] (a2 := (st 134 [(4, .pointer (some ⟨0, 0, none⟩)), (5, .pointer (some ⟨1, 0, none⟩)), (10, .pointer (some ⟨2, 0, none⟩)), (11, .int .i64 r16), (12, .int .i64 r18), (13, .int .i64 v77), (14, .int .i64 v78), (15, .pointer (some ⟨3, 0, none⟩)), (16, .int .i64 r146), (101, .agg ⟨[.int .i64 r148.1, .int .i64 r148.2]⟩)])) (h2 := [.cells 23 [.int .i64 p4, .int .i64 p5], .cells 3 [.int .i64 p6], .cells 108 [.int .i64 r10.1.1.1, .int .i64 r10.1.1.2, .int .i64 r10.1.2.1, .int .i64 r10.1.2.2, .int .i64 r10.2.1.1, .int .i64 r10.2.1.2, .int .i64 r10.2.2.1, .int .i64 r10.2.2.2], .cells 23 [.int .i64 r138.1, .int .i64 r138.2]]) (by kernel_rfl) ?_
    refine TI.run 2 [4, 5, 10, 11, 12, 13, 14, 15, 16, 17] [0, 1, 2, 3, 4] (a2 := (st 134 [(4, .pointer (some ⟨0, 0, none⟩)), (5, .pointer (some ⟨1, 0, none⟩)), (10, .pointer (some ⟨2, 0, none⟩)), (11, .int .i64 r16), (12, .int .i64 r18), (13, .int .i64 v77), (14, .int .i64 v78), (15, .pointer (some ⟨3, 0, none⟩)), (16, .int .i64 r146), (17, .pointer (some ⟨4, 0, none⟩))])) (h2 := [.cells 23 [.int .i64 p4, .int .i64 p5], .cells 3 [.int .i64 p6], .cells 108 [.int .i64 r10.1.1.1, .int .i64 r10.1.1.2, .int .i64 r10.1.2.1, .int .i64 r10.1.2.2, .int .i64 r10.2.1.1, .int .i64 r10.2.1.2, .int .i64 r10.2.2.1, .int .i64 r10.2.2.2], .cells 23 [.int .i64 r138.1, .int .i64 r138.2], .cells 23 [.int .i64 r148.1, .int .i64 r148.2]]) (by kernel_rfl) ?_
    refine TI.done (by kernel_rfl) ?_
    refine NX.sq ?_
    refine TS.block' (id := 3) (x := c34.s2.s2.s2.s2.s2.s2.s2.s2.s2.s1.s2.bd.bd.s2.s1.bd.s2.s2.s1.s2.bd) (by kernel_rfl) ?_
    have hX := of_do hF
    clear hF
    obtain ⟨r169, h170, hF⟩ := hX
    refine TS.loop' (x := c34.s2.s2.s2.s2.s2.s2.s2.s2.s2.s1.s2.bd.bd.s2.s1.bd.s2.s2.s1.s2.bd.bd) (by kernel_rfl) (TL.weak (a2 := (st 134 [(4, .pointer (some ⟨0, 0, none⟩)), (5, .pointer (some ⟨1, 0, none⟩)), (10, .pointer (some ⟨2, 0, none⟩)), (11, .int .i64 r16), (12, .int .i64 r18), (13, .int .i64 v77), (14, .int .i64 v78), (15, .pointer (some ⟨3, 0, none⟩)), (16, .int .i64 r146), (17, .pointer (some ⟨4, 0, none⟩))])) (h2 := [.cells 23 [.int .i64 p4, .int .i64 p5], .cells 3 [.int .i64 p6], .cells 108 [.int .i64 r10.1.1.1, .int .i64 r10.1.1.2, .int .i64 r10.1.2.1, .int .i64 r10.1.2.2, .int .i64 r10.2.1.1, .int .i64 r10.2.1.2, .int .i64 r10.2.2.1, .int .i64 r10.2.2.2], .cells 23 [.int .i64 r138.1, .int .i64 r138.2], .cells 23 [.int .i64 r148.1, .int .i64 r148.2]]) (Wk.anew (base := 0) (L := 0) (f := [0, 1, 2, 3, 4]) (by decide) (by decide) (Nat.le_of_ble_eq_true rfl) rfl (.cons (At.blk (by kernel_rfl) (RnB.lit (.cons (.flat (by kernel_rfl)) (.cons (.flat (by kernel_rfl)) .nil)))) (.cons (At.blk (by kernel_rfl) (RnB.lit (.cons (.flat (by kernel_rfl)) .nil))) (.cons (At.blk (by kernel_rfl) (RnB.lit (.cons (.flat (by kernel_rfl)) (.cons (.flat (by kernel_rfl)) (.cons (.flat (by kernel_rfl)) (.cons (.flat (by kernel_rfl)) (.cons (.flat (by kernel_rfl)) (.cons (.flat (by kernel_rfl)) (.cons (.flat (by kernel_rfl)) (.cons (.flat (by kernel_rfl)) .nil)))))))))) (.cons (At.blk (by kernel_rfl) (RnB.lit (.cons (.flat (by kernel_rfl)) (.cons (.flat (by kernel_rfl)) .nil)))) (.cons (At.blk (by kernel_rfl) (RnB.lit (.cons (.flat (by kernel_rfl)) (.cons (.flat (by kernel_rfl)) .nil)))) (.nil _)))))) (LRn.stx [4, 5, 10, 11, 12, 13, 14, 15, 16, 17] [.pointer (some ⟨0, 0, none⟩), .pointer (some ⟨1, 0, none⟩), .pointer (some ⟨2, 0, none⟩), .int .i64 r16, .int .i64 r18, .int .i64 v77, .int .i64 v78, .pointer (some ⟨3, 0, none⟩), .int .i64 r146, .pointer (some ⟨4, 0, none⟩)] [.pointer (some ⟨0, 0, none⟩), .pointer (some ⟨1, 0, none⟩), .pointer (some ⟨2, 0, none⟩), .int .i64 r16, .int .i64 r18, .int .i64 v77, .int .i64 v78, .pointer (some ⟨3, 0, none⟩), .int .i64 r146, .pointer (some ⟨4, 0, none⟩)] (.cons (Rn.ptr _ _ _ (Nat.le_of_ble_eq_true rfl) rfl) (.cons (Rn.ptr _ _ _ (Nat.le_of_ble_eq_true rfl) rfl) (.cons (Rn.ptr _ _ _ (Nat.le_of_ble_eq_true rfl) rfl) (.cons (.flat (by kernel_rfl)) (.cons (.flat (by kernel_rfl)) (.cons (.flat (by kernel_rfl)) (.cons (.flat (by kernel_rfl)) (.cons (Rn.ptr _ _ _ (Nat.le_of_ble_eq_true rfl) rfl) (.cons (.flat (by kernel_rfl)) (.cons (Rn.ptr _ _ _ (Nat.le_of_ble_eq_true rfl) rfl) .nil)))))))))) (by kernel_rfl) (by kernel_rfl) rfl) rfl rfl) (TL.post (L34l1 p4 p5 p6 r10 r16 r18 r138 r146 v78 v77 r148.1 r148.2 r169 h170) ?_))
    rintro e a1 h1 hp
    obtain ⟨rfl, hw⟩ := hp
    refine ⟨(st 134 [(4, .pointer (some ⟨0, 0, none⟩)), (5, .pointer (some ⟨1, 0, none⟩)), (10, .pointer (some ⟨2, 0, none⟩)), (11, .int .i64 r16), (12, .int .i64 r18), (13, .int .i64 r169), (14, .int .i64 v78), (15, .pointer (some ⟨3, 0, none⟩)), (16, .int .i64 r146)]), [.cells 23 [.int .i64 p4, .int .i64 p5], .cells 3 [.int .i64 p6], .cells 108 [.int .i64 r10.1.1.1, .int .i64 r10.1.1.2, .int .i64 r10.1.2.1, .int .i64 r10.1.2.2, .int .i64 r10.2.1.1, .int .i64 r10.2.1.2, .int .i64 r10.2.2.1, .int .i64 r10.2.2.2], .cells 23 [.int .i64 r138.1, .int .i64 r138.2]], ?_, hw⟩
    refine NX.bkX ?_
    refine NX.sq ?_
    refine TS.seq' (x := c34.s2.s2.s2.s2.s2.s2.s2.s2.s2.s1.s2.bd.bd.s2.s1.bd.s2.s2.s2.s1) (y := c34.s2.s2.s2.s2.s2.s2.s2.s2.s2.s1.s2.bd.bd.s2.s1.bd.s2.s2.s2.s2) (by kernel_rfl) ?_
    have hX := of_do hF
    clear hF
    obtain ⟨r171, h172, hF⟩ := hX
    refine TS.region' (id := 25) (b := false) (ops := c34.s2.s2.s2.s2.s2.s2.s2.s2.s2.s1.s2.bd.bd.s2.s1.bd.s2.s2.s2.s1.rops) (by kernel_rfl) rfl ?_
    refine TI.run 6 [4, 5, 10, 11, 12, 13, 14, 114, 116, 119] [0, 1, 2] (a2 := (st 134 [(4, .pointer (some ⟨0, 0, none⟩)), (5, .pointer (some ⟨1, 0, none⟩)), (10, .pointer (some ⟨2, 0, none⟩)), (11, .int .i64 r16), (12, .int .i64 r18), (13, .int .i64 r169), (14, .int .i64 v78), (114, .agg ⟨[.int .i64 r138.1, .int .i64 r138.2]⟩), (116, .int .i64 (w64 (r146 - 1))), (119, .agg ⟨[.int .i64 r10.1.1.1, .int .i64 r10.1.1.2]⟩)])) (h2 := [.cells 23 [.int .i64 p4, .int .i64 p5], .cells 3 [.int .i64 p6], .cells 108 [.int .i64 r10.1.1.1, .int .i64 r10.1.1.2, .int .i64 r10.1.2.1, .int .i64 r10.1.2.2, .int .i64 r10.2.1.1, .int .i64 r10.2.1.2, .int .i64 r10.2.2.1, .int .i64 r10.2.2.2], .dead]) (by kernel_rfl) ?_
    refine TI.callM (g := 53) (args := [.agg ⟨[.int .i64 r138.1, .int .i64 r138.2]⟩, .int .i64 (w64 (r146 - 1)), .agg ⟨[.int .i64 r10.1.1.1, .int .i64 r10.1.1.2]⟩]) (v := .agg ⟨[.int .i64 r171.1, .int .i64 r171.2]⟩) (new := []) (by kernel_rfl) (PureSim.any (C53 r138.1 r138.2 (w64 (r146 - 1)) r10.1.1.1 r10.1.1.2 r171 h172) (flatL (by kernel_rfl)) (by kernel_rfl) [.cells 23 [.int .i64 p4, .int .i64 p5], .cells 3 [.int .i64 p6], .cells 108 [.int .i64 r10.1.1.1, .int .i64 r10.1.1.2, .int .i64 r10.1.2.1, .int .i64 r10.1.2.2, .int .i64 r10.2.1.1, .int .i64 r10.2.1.2, .int .i64 r10.2.2.1, .int .i64 r10.2.2.2], .dead]) [4, 5, 10, 11, 12, 13, 14, 120] [0, 1, 2] (a2 := (st 134 [(4, .pointer (some ⟨0, 0, none⟩)), (5, .pointer (some ⟨1, 0, none⟩)), (10, .pointer (some ⟨2, 0, none⟩)), (11, .int .i64 r16), (12, .int .i64 r18), (13, .int .i64 r169), (14, .int .i64 v78), (120, .agg ⟨[.int .i64 r171.1, .int .i64 r171.2]⟩)])) (h2 := [.cells 23 [.int .i64 p4, .int .i64 p5], .cells 3 [.int .i64 p6], .cells 108 [.int .i64 r10.1.1.1, .int .i64 r10.1.1.2, .int .i64 r10.1.2.1, .int .i64 r10.1.2.2, .int .i64 r10.2.1.1, .int .i64 r10.2.1.2, .int .i64 r10.2.2.1, .int .i64 r10.2.2.2], .dead]) (by kernel_rfl) ?_
    refine TI.run 2 [4, 5, 10, 11, 12, 13, 14, 18] [0, 1, 2, 4] (a2 := (st 134 [(4, .pointer (some ⟨0, 0, none⟩)), (5, .pointer (some ⟨1, 0, none⟩)), (10, .pointer (some ⟨2, 0, none⟩)), (11, .int .i64 r16), (12, .int .i64 r18), (13, .int .i64 r169), (14, .int .i64 v78), (18, .pointer (some ⟨4, 0, none⟩))])) (h2 := [.cells 23 [.int .i64 p4, .int .i64 p5], .cells 3 [.int .i64 p6], .cells 108 [.int .i64 r10.1.1.1, .int .i64 r10.1.1.2, .int .i64 r10.1.2.1, .int .i64 r10.1.2.2, .int .i64 r10.2.1.1, .int .i64 r10.2.1.2, .int .i64 r10.2.2.1, .int .i64 r10.2.2.2], .dead, .cells 23 [.int .i64 r171.1, .int .i64 r171.2]]) (by kernel_rfl) ?_
    refine TI.done (by kernel_rfl) ?_
    refine NX.sq ?_
    refine TS.block' (id := 5) (x := c34.s2.s2.s2.s2.s2.s2.s2.s2.s2.s1.s2.bd.bd.s2.s1.bd.s2.s2.s2.s2.bd) (by kernel_rfl) ?_
    have hX := of_do hF
    clear hF
    obtain ⟨r192, h193, hF⟩ := hX
    refine TS.loop' (x := c34.s2.s2.s2.s2.s2.s2.s2.s2.s2.s1.s2.bd.bd.s2.s1.bd.s2.s2.s2.s2.bd.bd) (by kernel_rfl) (TL.weak (a2 := (st 134 [(4, .pointer (some ⟨0, 0, none⟩)), (5, .pointer (some ⟨1, 0, none⟩)), (10, .pointer (some ⟨2, 0, none⟩)), (11, .int .i64 r16), (12, .int .i64 r18), (13, .int .i64 r169), (14, .int .i64 v78), (18, .pointer (some ⟨3, 0, none⟩))])) (h2 := [.cells 23 [.int .i64 p4, .int .i64 p5], .cells 3 [.int .i64 p6], .cells 108 [.int .i64 r10.1.1.1, .int .i64 r10.1.1.2, .int .i64 r10.1.2.1, .int .i64 r10.1.2.2, .int .i64 r10.2.1.1, .int .i64 r10.2.1.2, .int .i64 r10.2.2.1, .int .i64 r10.2.2.2], .cells 23 [.int .i64 r171.1, .int .i64 r171.2]]) (Wk.anew (base := 0) (L := 0) (f := [0, 1, 2, 4]) (by decide) (by decide) (Nat.le_of_ble_eq_true rfl) rfl (.cons (At.blk (by kernel_rfl) (RnB.lit (.cons (.flat (by kernel_rfl)) (.cons (.flat (by kernel_rfl)) .nil)))) (.cons (At.blk (by kernel_rfl) (RnB.lit (.cons (.flat (by kernel_rfl)) .nil))) (.cons (At.blk (by kernel_rfl) (RnB.lit (.cons (.flat (by kernel_rfl)) (.cons (.flat (by kernel_rfl)) (.cons (.flat (by kernel_rfl)) (.cons (.flat (by kernel_rfl)) (.cons (.flat (by kernel_rfl)) (.cons (.flat (by kernel_rfl)) (.cons (.flat (by kernel_rfl)) (.cons (.flat (by kernel_rfl)) .nil)))))))))) (.cons (At.blk (by kernel_rfl) (RnB.lit (.cons (.flat (by kernel_rfl)) (.cons (.flat (by kernel_rfl)) .nil)))) (.nil _))))) (LRn.stx [4, 5, 10, 11, 12, 13, 14, 18] [.pointer (some ⟨0, 0, none⟩), .pointer (some ⟨1, 0, none⟩), .pointer (some ⟨2, 0, none⟩), .int .i64 r16, .int .i64 r18, .int .i64 r169, .int .i64 v78, .pointer (some ⟨3, 0, none⟩)] [.pointer (some ⟨0, 0, none⟩), .pointer (some ⟨1, 0, none⟩), .pointer (some ⟨2, 0, none⟩), .int .i64 r16, .int .i64 r18, .int .i64 r169, .int .i64 v78, .pointer (some ⟨4, 0, none⟩)] (.cons (Rn.ptr _ _ _ (Nat.le_of_ble_eq_true rfl) rfl) (.cons (Rn.ptr _ _ _ (Nat.le_of_ble_eq_true rfl) rfl) (.cons (Rn.ptr _ _ _ (Nat.le_of_ble_eq_true rfl) rfl) (.cons (.flat (by kernel_rfl)) (.cons (.flat (by kernel_rfl)) (.cons (.flat (by kernel_rfl)) (.cons (.flat (by kernel_rfl)) (.cons (Rn.ptr _ _ _ (Nat.le_of_ble_eq_true rfl) rfl) .nil)))))))) (by kernel_rfl) (by kernel_rfl) rfl) rfl rfl) (TL.post (L34l2 p4 p5 p6 r10 r16 r18 v78 r169 r171.1 r171.2 r192 h193) ?_))
    rintro e a1 h1 hp
    obtain ⟨rfl, hw⟩ := hp
    refine ⟨(st 134 [(4, .pointer (some ⟨0, 0, none⟩)), (5, .pointer (some ⟨1, 0, none⟩)), (10, .pointer (some ⟨2, 0, none⟩)), (11, .int .i64 r16), (12, .int .i64 r18), (13, .int .i64 r192), (14, .int .i64 v78)]), [.cells 23 [.int .i64 p4, .int .i64 p5], .cells 3 [.int .i64 p6], .cells 108 [.int .i64 r10.1.1.1, .int .i64 r10.1.1.2, .int .i64 r10.1.2.1, .int .i64 r10.1.2.2, .int .i64 r10.2.1.1, .int .i64 r10.2.1.2, .int .i64 r10.2.2.1, .int .i64 r10.2.2.2]], ?_, hw⟩
    refine NX.bkX ?_
    refine NX.bk ?_
    refine NX.sq ?_
    refine TS.region' (id := 16) (b := false) (ops := c34.s2.s2.s2.s2.s2.s2.s2.s2.s2.s1.s2.bd.bd.s2.s2.rops) (by kernel_rfl) rfl ?_
    refine TI.run 3 [4, 5, 10, 11, 12, 13, 14] [0, 1, 2] (a2 := (st 134 [(4, .pointer (some ⟨0, 0, none⟩)), (5, .pointer (some ⟨1, 0, none⟩)), (10, .pointer (some ⟨2, 0, none⟩)), (11, .int .i64 r16), (12, .int .i64 r18), (13, .int .i64 r192), (14, .int .i64 (w64 (v78 + 1)))])) (h2 := [.cells 23 [.int .i64 p4, .int .i64 p5], .cells 3 [.int .i64 p6], .cells 108 [.int .i64 r10.1.1.1, .int .i64 r10.1.1.2, .int .i64 r10.1.2.1, .int .i64 r10.1.2.2, .int .i64 r10.2.1.1, .int .i64 r10.2.1.2, .int .i64 r10.2.2.1, .int .i64 r10.2.2.2]]) (by kernel_rfl) ?_
    refine TI.done (by kernel_rfl) ?_
    exact Rd.again (a2 := (st 134 [(4, .pointer (some ⟨0, 0, none⟩)), (5, .pointer (some ⟨1, 0, none⟩)), (10, .pointer (some ⟨2, 0, none⟩)), (11, .int .i64 r16), (12, .int .i64 r18), (13, .int .i64 r192), (14, .int .i64 (w64 (v78 + 1)))])) (h2 := [.cells 23 [.int .i64 p4, .int .i64 p5], .cells 3 [.int .i64 p6], .cells 108 [.int .i64 r10.1.1.1, .int .i64 r10.1.1.2, .int .i64 r10.1.2.1, .int .i64 r10.1.2.2, .int .i64 r10.2.1.1, .int .i64 r10.2.1.2, .int .i64 r10.2.2.1, .int .i64 r10.2.2.2]]) (Wk.anew (base := 0) (L := 0) (f := [0, 1, 2]) (by decide) (by decide) (Nat.le_of_ble_eq_true rfl) rfl (.cons (At.blk (by kernel_rfl) (RnB.lit (.cons (.flat (by kernel_rfl)) (.cons (.flat (by kernel_rfl)) .nil)))) (.cons (At.blk (by kernel_rfl) (RnB.lit (.cons (.flat (by kernel_rfl)) .nil))) (.cons (At.blk (by kernel_rfl) (RnB.lit (.cons (.flat (by kernel_rfl)) (.cons (.flat (by kernel_rfl)) (.cons (.flat (by kernel_rfl)) (.cons (.flat (by kernel_rfl)) (.cons (.flat (by kernel_rfl)) (.cons (.flat (by kernel_rfl)) (.cons (.flat (by kernel_rfl)) (.cons (.flat (by kernel_rfl)) .nil)))))))))) (.nil _)))) (LRn.stx [4, 5, 10, 11, 12, 13, 14] [.pointer (some ⟨0, 0, none⟩), .pointer (some ⟨1, 0, none⟩), .pointer (some ⟨2, 0, none⟩), .int .i64 r16, .int .i64 r18, .int .i64 r192, .int .i64 (w64 (v78 + 1))] [.pointer (some ⟨0, 0, none⟩), .pointer (some ⟨1, 0, none⟩), .pointer (some ⟨2, 0, none⟩), .int .i64 r16, .int .i64 r18, .int .i64 r192, .int .i64 (w64 (v78 + 1))] (.cons (Rn.ptr _ _ _ (Nat.le_of_ble_eq_true rfl) rfl) (.cons (Rn.ptr _ _ _ (Nat.le_of_ble_eq_true rfl) rfl) (.cons (Rn.ptr _ _ _ (Nat.le_of_ble_eq_true rfl) rfl) (.cons (.flat (by kernel_rfl)) (.cons (.flat (by kernel_rfl)) (.cons (.flat (by kernel_rfl)) (.cons (.flat (by kernel_rfl)) .nil))))))) (by kernel_rfl) (by kernel_rfl) rfl) rfl rfl) (ih r192 (w64 (v78 + 1)) _ hF)
  · replace hF := of_neg hF hc137
    refine TS.exit' (id := 1) (by kernel_rfl) ?_
    refine NX.sqX ?_
    have hF := Option.some.inj hF
    subst hF
    exact Rd.out (e := .exit 1) (by intro h; cases h) (And.intro rfl (Wk.anew (base := 0) (L := 0) (f := []) (by decide) (by decide) (Nat.le_of_ble_eq_true rfl) rfl (.nil _) (LRn.stx [13] [.int .i64 v77] [.int .i64 v77] (.cons (.flat (by kernel_rfl)) .nil) (by kernel_rfl) (by kernel_rfl) rfl) rfl rfl))
theorem B34 (p0 : Int) (p1 : Int) (p2 : Int) (p3 : Int) (p4 : Int) (p5 : Int) (p6 : Int) (r : (Int × Int)) (hF : F34 p0 p1 p2 p3 p4 p5 p6 = some r) : TS Try.prog 0 0 c34 (st 134 [(0, .agg ⟨[.int .i64 p0, .int .i64 p1, .int .i64 p2, .int .i64 p3]⟩), (1, .agg ⟨[.int .i64 p4, .int .i64 p5]⟩), (2, .int .i64 p6)]) [] (NX Try.prog 0 0 [] (FinP Try.prog Try.f34 0 (V34 0 r) (N34 0 r))) := by
  unfold F34 at hF
  refine TS.seq' (x := c34.s1) (y := c34.s2) (by kernel_rfl) ?_
  refine TS.region' (id := 0) (b := false) (ops := c34.s1.rops) (by kernel_rfl) rfl ?_
  refine TI.run 5 [3, 4, 5] [0, 1, 2] (a2 := (st 134 [(3, .pointer (some ⟨0, 0, none⟩)), (4, .pointer (some ⟨1, 0, none⟩)), (5, .pointer (some ⟨2, 0, none⟩))])) (h2 := [.cells 25 [.int .i64 p0, .int .i64 p1, .int .i64 p2, .int .i64 p3], .cells 23 [.int .i64 p4, .int .i64 p5], .cells 3 [.int .i64 p6]]) (by kernel_rfl) ?_
  refine TI.done (by kernel_rfl) ?_
  refine NX.sq ?_
  refine TS.seq' (x := c34.s2.s1) (y := c34.s2.s2) (by kernel_rfl) ?_
  have hX := of_do hF
  clear hF
  obtain ⟨r1, h2, hF⟩ := hX
  refine TS.region' (id := 1) (b := false) (ops := c34.s2.s1.rops) (by kernel_rfl) rfl ?_
  refine TI.run 2 [3, 4, 5, 19, 20] [0, 1, 2] (a2 := (st 134 [(3, .pointer (some ⟨0, 0, none⟩)), (4, .pointer (some ⟨1, 0, none⟩)), (5, .pointer (some ⟨2, 0, none⟩)), (19, .agg ⟨[.int .i64 p0, .int .i64 p1, .int .i64 p2, .int .i64 p3]⟩), (20, .agg ⟨[.int .i64 p4, .int .i64 p5]⟩)])) (h2 := [.cells 25 [.int .i64 p0, .int .i64 p1, .int .i64 p2, .int .i64 p3], .cells 23 [.int .i64 p4, .int .i64 p5], .cells 3 [.int .i64 p6]]) (by kernel_rfl) ?_
  refine TI.callM (g := 52) (args := [.agg ⟨[.int .i64 p0, .int .i64 p1, .int .i64 p2, .int .i64 p3]⟩, .agg ⟨[.int .i64 p4, .int .i64 p5]⟩, .slice none 0 0]) (v := .int .i64 r1) (new := []) (by kernel_rfl) (PureSim.ren (hc := [accB 27 (List.length ([])) (List.flatMap e27 ([]))]) (fun i => List.getD [(0, 0)] i (0, 0)) (C52 p0 p1 p2 p3 p4 p5 ([]) r1 h2) (.cons At.accN (.nil _)) (.cons (.flat (by kernel_rfl)) (.cons (.flat (by kernel_rfl)) (.cons (Rn.anyN _ _ _ rfl (by decide)) .nil))) (.flat (by kernel_rfl)) newflat_nil) [3, 4, 5, 21] [0, 1, 2] (a2 := (st 134 [(3, .pointer (some ⟨0, 0, none⟩)), (4, .pointer (some ⟨1, 0, none⟩)), (5, .pointer (some ⟨2, 0, none⟩)), (21, .int .i64 r1)])) (h2 := [.cells 25 [.int .i64 p0, .int .i64 p1, .int .i64 p2, .int .i64 p3], .cells 23 [.int .i64 p4, .int .i64 p5], .cells 3 [.int .i64 p6]]) (by kernel_rfl) ?_
  refine TI.run 1 [3, 4, 5, 8] [0, 1, 2] (a2 := (st 134 [(3, .pointer (some ⟨0, 0, none⟩)), (4, .pointer (some ⟨1, 0, none⟩)), (5, .pointer (some ⟨2, 0, none⟩)), (8, .int .i64 r1)])) (h2 := [.cells 25 [.int .i64 p0, .int .i64 p1, .int .i64 p2, .int .i64 p3], .cells 23 [.int .i64 p4, .int .i64 p5], .cells 3 [.int .i64 p6]]) (by kernel_rfl) ?_
  refine TI.done (by kernel_rfl) ?_
  refine NX.sq ?_
  refine TS.seq' (x := c34.s2.s2.s1) (y := c34.s2.s2.s2) (by kernel_rfl) ?_
  have hX := of_do hF
  clear hF
  obtain ⟨r3, h4, hF⟩ := hX
  refine TS.region' (id := 2) (b := false) (ops := c34.s2.s2.s1.rops) (by kernel_rfl) rfl ?_
  refine TI.run 4 [3, 4, 5, 8, 23, 25] [0, 1, 2] (a2 := (st 134 [(3, .pointer (some ⟨0, 0, none⟩)), (4, .pointer (some ⟨1, 0, none⟩)), (5, .pointer (some ⟨2, 0, none⟩)), (8, .int .i64 r1), (23, .agg ⟨[.int .i64 p0, .int .i64 p1]⟩), (25, .agg ⟨[.int .i64 p2, .int .i64 p3]⟩)])) (h2 := [.cells 25 [.int .i64 p0, .int .i64 p1, .int .i64 p2, .int .i64 p3], .cells 23 [.int .i64 p4, .int .i64 p5], .cells 3 [.int .i64 p6]]) (by kernel_rfl) ?_
  refine TI.callM (g := 59) (args := [.agg ⟨[.int .i64 p0, .int .i64 p1]⟩, .agg ⟨[.int .i64 p2, .int .i64 p3]⟩]) (v := .int .i64 r3) (new := []) (by kernel_rfl) (PureSim.any (C59 p0 p1 p2 p3 r3 h4) (flatL (by kernel_rfl)) (by kernel_rfl) [.cells 25 [.int .i64 p0, .int .i64 p1, .int .i64 p2, .int .i64 p3], .cells 23 [.int .i64 p4, .int .i64 p5], .cells 3 [.int .i64 p6]]) [3, 4, 5, 8, 26] [0, 1, 2] (a2 := (st 134 [(3, .pointer (some ⟨0, 0, none⟩)), (4, .pointer (some ⟨1, 0, none⟩)), (5, .pointer (some ⟨2, 0, none⟩)), (8, .int .i64 r1), (26, .int .i64 r3)])) (h2 := [.cells 25 [.int .i64 p0, .int .i64 p1, .int .i64 p2, .int .i64 p3], .cells 23 [.int .i64 p4, .int .i64 p5], .cells 3 [.int .i64 p6]]) (by kernel_rfl) ?_
  refine TI.run 2 [3, 4, 5, 8, 9] [0, 1, 2, 3] (a2 := (st 134 [(3, .pointer (some ⟨0, 0, none⟩)), (4, .pointer (some ⟨1, 0, none⟩)), (5, .pointer (some ⟨2, 0, none⟩)), (8, .int .i64 r1), (9, .pointer (some ⟨3, 0, none⟩))])) (h2 := [.cells 25 [.int .i64 p0, .int .i64 p1, .int .i64 p2, .int .i64 p3], .cells 23 [.int .i64 p4, .int .i64 p5], .cells 3 [.int .i64 p6], .cells 3 [.int .i64 r3]]) (by kernel_rfl) ?_
  refine TI.done (by kernel_rfl) ?_
  refine NX.sq ?_
  refine TS.seq' (x := c34.s2.s2.s2.s1) (y := c34.s2.s2.s2.s2) (by kernel_rfl) ?_
  refine TS.block' (id := 0) (x := c34.s2.s2.s2.s1.bd) (by kernel_rfl) ?_
  refine TS.seq' (x := c34.s2.s2.s2.s1.bd.s1) (y := c34.s2.s2.s2.s1.bd.s2) (by kernel_rfl) ?_
  refine TS.region' (id := 3) (b := false) (ops := c34.s2.s2.s2.s1.bd.s1.rops) (by kernel_rfl) rfl ?_
  refine TI.run 3 [3, 4, 5, 8, 9, 27] [0, 1, 2, 3] (a2 := (st 134 [(3, .pointer (some ⟨0, 0, none⟩)), (4, .pointer (some ⟨1, 0, none⟩)), (5, .pointer (some ⟨2, 0, none⟩)), (8, .int .i64 r1), (9, .pointer (some ⟨3, 0, none⟩)), (27, .bool (r1 != 0))])) (h2 := [.cells 25 [.int .i64 p0, .int .i64 p1, .int .i64 p2, .int .i64 p3], .cells 23 [.int .i64 p4, .int .i64 p5], .cells 3 [.int .i64 p6], .cells 3 [.int .i64 r3]]) (by kernel_rfl) ?_
  refine TI.done (by kernel_rfl) ?_
  refine NX.sq ?_
  refine TS.cond' (o := (.tmp 27)) (x := c34.s2.s2.s2.s1.bd.s2.th) (y := c34.s2.s2.s2.s1.bd.s2.el) (b := r1 != 0) (by kernel_rfl) (by kernel_rfl) (fun hc5 => ?_) (fun hc5 => ?_)
  · replace hF := of_pos hF hc5
    refine TS.seq' (x := c34.s2.s2.s2.s1.bd.s2.th.s1) (y := c34.s2.s2.s2.s1.bd.s2.th.s2) (by kernel_rfl) ?_
    refine TS.region' (id := 4) (b := false) (ops := c34.s2.s2.s2.s1.bd.s2.th.s1.rops) (by kernel_rfl) rfl ?_
    refine TI.run 3 [6, 7] [] (a2 := (st 134 [(6, .int .i64 0), (7, .int .i64 r1)])) (h2 := [.dead, .dead, .dead, .dead]) (by kernel_rfl) ?_
    refine TI.done (by kernel_rfl) ?_
    refine NX.sq ?_
    refine TS.ret' (by kernel_rfl) ?_
    refine NX.bkR ?_
    refine NX.sqR ?_
    have hF := Option.some.inj hF
    subst hF
    exact ⟨.inr rfl, rfl, .tuple ⟨[.int .i64 0, .int .i64 r1]⟩, by kernel_rfl, WkV.flat0 (by kernel_rfl) (Nat.le_of_ble_eq_true rfl)⟩
  · replace hF := of_neg hF hc5
    refine TS.seq' (x := c34.s2.s2.s2.s1.bd.s2.el.s1) (y := c34.s2.s2.s2.s1.bd.s2.el.s2) (by kernel_rfl) ?_
    have hX := of_do hF
    clear hF
    obtain ⟨r6, h7, hF⟩ := hX
    have hX := of_do hF
    clear hF
    obtain ⟨m8, hm196, hF⟩ := hX
    have hK : NX Try.prog 0 0 [.sq c34.s2.s2.s2.s1.bd.s2.el.s2, .bk 0, .sq c34.s2.s2.s2.s2] (FinP Try.prog Try.f34 0 (V34 0 r) (N34 0 r)) .normal (st 134 [(3, .pointer (some ⟨0, 0, none⟩)), (4, .pointer (some ⟨1, 0, none⟩)), (5, .pointer (some ⟨2, 0, none⟩)), (9, .pointer (some ⟨3, 0, none⟩)), (31, .bool m8)]) [.cells 25 [.int .i64 p0, .int .i64 p1, .int .i64 p2, .int .i64 p3], .cells 23 [.int .i64 p4, .int .i64 p5], .cells 3 [.int .i64 p6], .cells 3 [.int .i64 r3]] := by
      refine NX.sq ?_
      cases m8 with
      | true =>
        replace hF := of_pos hF rfl
        refine TS.condT' (o := (.tmp 31)) (x := c34.s2.s2.s2.s1.bd.s2.el.s2.th) (y := c34.s2.s2.s2.s1.bd.s2.el.s2.el) (by kernel_rfl) (by kernel_rfl) ?_
        refine TS.seq' (x := c34.s2.s2.s2.s1.bd.s2.el.s2.th.s1) (y := c34.s2.s2.s2.s1.bd.s2.el.s2.th.s2) (by kernel_rfl) ?_
        refine TS.region' (id := 6) (b := false) (ops := c34.s2.s2.s2.s1.bd.s2.el.s2.th.s1.rops) (by kernel_rfl) rfl ?_
        refine TI.run 2 [6, 7] [] (a2 := (st 134 [(6, .int .i64 0), (7, .int .i64 1)])) (h2 := [.dead, .dead, .dead, .dead]) (by kernel_rfl) ?_
        refine TI.done (by kernel_rfl) ?_
        refine NX.sq ?_
        refine TS.ret' (by kernel_rfl) ?_
        refine NX.bkR ?_
        refine NX.sqR ?_
        have hF := Option.some.inj hF
        subst hF
        exact ⟨.inr rfl, rfl, .tuple ⟨[.int .i64 0, .int .i64 1]⟩, by kernel_rfl, WkV.flat0 (by kernel_rfl) (Nat.le_of_ble_eq_true rfl)⟩
      | false =>
        replace hF := of_neg hF rfl
        refine TS.condF' (o := (.tmp 31)) (x := c34.s2.s2.s2.s1.bd.s2.el.s2.th) (y := c34.s2.s2.s2.s1.bd.s2.el.s2.el) (by kernel_rfl) (by kernel_rfl) ?_
        refine TS.seq' (x := c34.s2.s2.s2.s1.bd.s2.el.s2.el.s1) (y := c34.s2.s2.s2.s1.bd.s2.el.s2.el.s2) (by kernel_rfl) ?_
        refine TS.region' (id := 7) (b := false) (ops := c34.s2.s2.s2.s1.bd.s2.el.s2.el.s1.rops) (by kernel_rfl) rfl ?_
        refine TI.run 8 [3, 4, 5, 9, 35] [0, 1, 2, 3] (a2 := (st 134 [(3, .pointer (some ⟨0, 0, none⟩)), (4, .pointer (some ⟨1, 0, none⟩)), (5, .pointer (some ⟨2, 0, none⟩)), (9, .pointer (some ⟨3, 0, none⟩)), (35, .bool (decide (p6 > (w64 (2000 * (mx r3 (w64 (0 - r3))))))))])) (h2 := [.cells 25 [.int .i64 p0, .int .i64 p1, .int .i64 p2, .int .i64 p3], .cells 23 [.int .i64 p4, .int .i64 p5], .cells 3 [.int .i64 p6], .cells 3 [.int .i64 r3]]) (by kernel_rfl) ?_
        refine TI.done (by kernel_rfl) ?_
        refine NX.sq ?_
        refine TS.cond' (o := (.tmp 35)) (x := c34.s2.s2.s2.s1.bd.s2.el.s2.el.s2.th) (y := c34.s2.s2.s2.s1.bd.s2.el.s2.el.s2.el) (b := decide (p6 > (w64 (2000 * (mx r3 (w64 (0 - r3))))))) (by kernel_rfl) (by kernel_rfl) (fun hc9 => ?_) (fun hc9 => ?_)
        · replace hF := of_pos hF hc9
          refine TS.seq' (x := c34.s2.s2.s2.s1.bd.s2.el.s2.el.s2.th.s1) (y := c34.s2.s2.s2.s1.bd.s2.el.s2.el.s2.th.s2) (by kernel_rfl) ?_
          refine TS.region' (id := 8) (b := false) (ops := c34.s2.s2.s2.s1.bd.s2.el.s2.el.s2.th.s1.rops) (by kernel_rfl) rfl ?_
          refine TI.run 2 [6, 7] [] (a2 := (st 134 [(6, .int .i64 0), (7, .int .i64 16)])) (h2 := [.dead, .dead, .dead, .dead]) (by kernel_rfl) ?_
          refine TI.done (by kernel_rfl) ?_
          refine NX.sq ?_
          refine TS.ret' (by kernel_rfl) ?_
          refine NX.bkR ?_
          refine NX.sqR ?_
          have hF := Option.some.inj hF
          subst hF
          exact ⟨.inr rfl, rfl, .tuple ⟨[.int .i64 0, .int .i64 16]⟩, by kernel_rfl, WkV.flat0 (by kernel_rfl) (Nat.le_of_ble_eq_true rfl)⟩
        · replace hF := of_neg hF hc9
          refine TS.skip' (by kernel_rfl) ?_
          refine NX.bk ?_
          refine NX.sq ?_
          refine TS.seq' (x := c34.s2.s2.s2.s2.s1) (y := c34.s2.s2.s2.s2.s2) (by kernel_rfl) ?_
          have hX := of_do hF
          clear hF
          obtain ⟨r10, h11, hF⟩ := hX
          refine TS.region' (id := 9) (b := false) (ops := c34.s2.s2.s2.s2.s1.rops) (by kernel_rfl) rfl ?_
          refine TI.run 1 [4, 5, 9, 43] [1, 2, 3] (a2 := (st 134 [(4, .pointer (some ⟨1, 0, none⟩)), (5, .pointer (some ⟨2, 0, none⟩)), (9, .pointer (some ⟨3, 0, none⟩)), (43, .agg ⟨[.int .i64 p0, .int .i64 p1, .int .i64 p2, .int .i64 p3]⟩)])) (h2 := [.dead, .cells 23 [.int .i64 p4, .int .i64 p5], .cells 3 [.int .i64 p6], .cells 3 [.int .i64 r3]]) (by kernel_rfl) ?_
          refine TI.callM (g := 61) (args := [.agg ⟨[.int .i64 p0, .int .i64 p1, .int .i64 p2, .int .i64 p3]⟩]) (v := .agg ⟨[.int .i64 r10.1.1.1, .int .i64 r10.1.1.2, .int .i64 r10.1.2.1, .int .i64 r10.1.2.2, .int .i64 r10.2.1.1, .int .i64 r10.2.1.2, .int .i64 r10.2.2.1, .int .i64 r10.2.2.2]⟩) (new := []) (by kernel_rfl) (PureSim.any (C61 p0 p1 p2 p3 r10 h11) (flatL (by kernel_rfl)) (by kernel_rfl) [.dead, .cells 23 [.int .i64 p4, .int .i64 p5], .cells 3 [.int .i64 p6], .cells 3 [.int .i64 r3]]) [4, 5, 9, 44] [1, 2, 3] (a2 := (st 134 [(4, .pointer (some ⟨1, 0, none⟩)), (5, .pointer (some ⟨2, 0, none⟩)), (9, .pointer (some ⟨3, 0, none⟩)), (44, .agg ⟨[.int .i64 r10.1.1.1, .int .i64 r10.1.1.2, .int .i64 r10.1.2.1, .int .i64 r10.1.2.2, .int .i64 r10.2.1.1, .int .i64 r10.2.1.2, .int .i64 r10.2.2.1, .int .i64 r10.2.2.2]⟩)])) (h2 := [.dead, .cells 23 [.int .i64 p4, .int .i64 p5], .cells 3 [.int .i64 p6], .cells 3 [.int .i64 r3]]) (by kernel_rfl) ?_
          refine TI.run 2 [4, 5, 9, 10] [1, 2, 3, 4] (a2 := (st 134 [(4, .pointer (some ⟨1, 0, none⟩)), (5, .pointer (some ⟨2, 0, none⟩)), (9, .pointer (some ⟨3, 0, none⟩)), (10, .pointer (some ⟨4, 0, none⟩))])) (h2 := [.dead, .cells 23 [.int .i64 p4, .int .i64 p5], .cells 3 [.int .i64 p6], .cells 3 [.int .i64 r3], .cells 108 [.int .i64 r10.1.1.1, .int .i64 r10.1.1.2, .int .i64 r10.1.2.1, .int .i64 r10.1.2.2, .int .i64 r10.2.1.1, .int .i64 r10.2.1.2, .int .i64 r10.2.2.1, .int .i64 r10.2.2.2]]) (by kernel_rfl) ?_
          refine TI.done (by kernel_rfl) ?_
          refine NX.sq ?_
          refine TS.seq' (x := c34.s2.s2.s2.s2.s2.s1) (y := c34.s2.s2.s2.s2.s2.s2) (by kernel_rfl) ?_
          have hX := of_do hF
          clear hF
          obtain ⟨r12, h13, hF⟩ := hX
          refine TS.region' (id := 10) (b := false) (ops := c34.s2.s2.s2.s2.s2.s1.rops) (by kernel_rfl) rfl ?_
          refine TI.run 6 [4, 5, 9, 10, 47, 50] [1, 2, 3, 4] (a2 := (st 134 [(4, .pointer (some ⟨1, 0, none⟩)), (5, .pointer (some ⟨2, 0, none⟩)), (9, .pointer (some ⟨3, 0, none⟩)), (10, .pointer (some ⟨4, 0, none⟩)), (47, .agg ⟨[.int .i64 r10.1.1.1, .int .i64 r10.1.1.2]⟩), (50, .agg ⟨[.int .i64 r10.1.2.1, .int .i64 r10.1.2.2]⟩)])) (h2 := [.dead, .cells 23 [.int .i64 p4, .int .i64 p5], .cells 3 [.int .i64 p6], .cells 3 [.int .i64 r3], .cells 108 [.int .i64 r10.1.1.1, .int .i64 r10.1.1.2, .int .i64 r10.1.2.1, .int .i64 r10.1.2.2, .int .i64 r10.2.1.1, .int .i64 r10.2.1.2, .int .i64 r10.2.2.1, .int .i64 r10.2.2.2]]) (by kernel_rfl) ?_
          refine TI.callM (g := 59) (args := [.agg ⟨[.int .i64 r10.1.1.1, .int .i64 r10.1.1.2]⟩, .agg ⟨[.int .i64 r10.1.2.1, .int .i64 r10.1.2.2]⟩]) (v := .int .i64 r12) (new := []) (by kernel_rfl) (PureSim.any (C59 r10.1.1.1 r10.1.1.2 r10.1.2.1 r10.1.2.2 r12 h13) (flatL (by kernel_rfl)) (by kernel_rfl) [.dead, .cells 23 [.int .i64 p4, .int .i64 p5], .cells 3 [.int .i64 p6], .cells 3 [.int .i64 r3], .cells 108 [.int .i64 r10.1.1.1, .int .i64 r10.1.1.2, .int .i64 r10.1.2.1, .int .i64 r10.1.2.2, .int .i64 r10.2.1.1, .int .i64 r10.2.1.2, .int .i64 r10.2.2.1, .int .i64 r10.2.2.2]]) [4, 5, 9, 10, 51] [1, 2, 3, 4] (a2 := (st 134 [(4, .pointer (some ⟨1, 0, none⟩)), (5, .pointer (some ⟨2, 0, none⟩)), (9, .pointer (some ⟨3, 0, none⟩)), (10, .pointer (some ⟨4, 0, none⟩)), (51, .int .i64 r12)])) (h2 := [.dead, .cells 23 [.int .i64 p4, .int .i64 p5], .cells 3 [.int .i64 p6], .cells 3 [.int .i64 r3], .cells 108 [.int .i64 r10.1.1.1, .int .i64 r10.1.1.2, .int .i64 r10.1.2.1, .int .i64 r10.1.2.2, .int .i64 r10.2.1.1, .int .i64 r10.2.1.2, .int .i64 r10.2.2.1, .int .i64 r10.2.2.2]]) (by kernel_rfl) ?_
          refine TI.run 1 [4, 5, 9, 10] [1, 2, 3, 4] (a2 := (st 134 [(4, .pointer (some ⟨1, 0, none⟩)), (5, .pointer (some ⟨2, 0, none⟩)), (9, .pointer (some ⟨3, 0, none⟩)), (10, .pointer (some ⟨4, 0, none⟩))])) (h2 := [.dead, .cells 23 [.int .i64 p4, .int .i64 p5], .cells 3 [.int .i64 p6], .cells 3 [.int .i64 r12], .cells 108 [.int .i64 r10.1.1.1, .int .i64 r10.1.1.2, .int .i64 r10.1.2.1, .int .i64 r10.1.2.2, .int .i64 r10.2.1.1, .int .i64 r10.2.1.2, .int .i64 r10.2.2.1, .int .i64 r10.2.2.2]]) (by kernel_rfl) ?_
          refine TI.done (by kernel_rfl) ?_
          refine NX.sq ?_
          refine TS.seq' (x := c34.s2.s2.s2.s2.s2.s2.s1) (y := c34.s2.s2.s2.s2.s2.s2.s2) (by kernel_rfl) ?_
          have hX := of_do hF
          clear hF
          obtain ⟨r14, h15, hF⟩ := hX
          have hX := of_do hF
          clear hF
          obtain ⟨r16, h17, hF⟩ := hX
          have hT : ∀ e ∈ ([⟨59, [.agg ⟨[.int .i64 r10.1.1.1, .int .i64 r10.1.1.2]⟩, .agg ⟨[.int .i64 p4, .int .i64 p5]⟩], [.dead, .cells 23 [.int .i64 p4, .int .i64 p5], .cells 3 [.int .i64 p6], .cells 3 [.int .i64 r12], .cells 108 [.int .i64 r10.1.1.1, .int .i64 r10.1.1.2, .int .i64 r10.1.2.1, .int .i64 r10.1.2.2, .int .i64 r10.2.1.1, .int .i64 r10.2.1.2, .int .i64 r10.2.2.1, .int .i64 r10.2.2.2]], .int .i64 r14, []⟩, ⟨69, [.int .i64 (w64 (0 - r14)), .int .i64 r12], [.dead, .cells 23 [.int .i64 p4, .int .i64 p5], .cells 3 [.int .i64 p6], .cells 3 [.int .i64 r12], .cells 108 [.int .i64 r10.1.1.1, .int .i64 r10.1.1.2, .int .i64 r10.1.2.1, .int .i64 r10.1.2.2, .int .i64 r10.2.1.1, .int .i64 r10.2.1.2, .int .i64 r10.2.2.1, .int .i64 r10.2.2.2]], .int .i64 r16, []⟩] : List Entry), PureSim Try.prog e.g e.args e.h e.v e.new := by
            intro e he
            simp only [List.mem_cons, List.not_mem_nil, or_false] at he
            rcases he with rfl | rfl
            · exact (PureSim.any (C59 r10.1.1.1 r10.1.1.2 p4 p5 r14 h15) (flatL (by kernel_rfl)) (by kernel_rfl) [.dead, .cells 23 [.int .i64 p4, .int .i64 p5], .cells 3 [.int .i64 p6], .cells 3 [.int .i64 r12], .cells 108 [.int .i64 r10.1.1.1, .int .i64 r10.1.1.2, .int .i64 r10.1.2.1, .int .i64 r10.1.2.2, .int .i64 r10.2.1.1, .int .i64 r10.2.1.2, .int .i64 r10.2.2.1, .int .i64 r10.2.2.2]])
            · exact (PureSim.any (C69 (w64 (0 - r14)) r12 r16 h17) (flatL (by kernel_rfl)) (by kernel_rfl) [.dead, .cells 23 [.int .i64 p4, .int .i64 p5], .cells 3 [.int .i64 p6], .cells 3 [.int .i64 r12], .cells 108 [.int .i64 r10.1.1.1, .int .i64 r10.1.1.2, .int .i64 r10.1.2.1, .int .i64 r10.1.2.2, .int .i64 r10.2.1.1, .int .i64 r10.2.1.2, .int .i64 r10.2.2.1, .int .i64 r10.2.2.2]])
          refine TS.draw' (id := 11) (b := true) (ops := c34.s2.s2.s2.s2.s2.s2.s1.rops) (fin := ({ act := (st 134 [(4, .pointer (some ⟨1, 0, none⟩)), (5, .pointer (some ⟨2, 0, none⟩)), (9, .pointer (some ⟨3, 0, none⟩)), (10, .pointer (some ⟨4, 0, none⟩)), (52, .pointer (some ⟨4, 0, none⟩)), (53, .pointer (some ⟨4, 0, none⟩)), (54, .agg ⟨[.int .i64 r10.1.1.1, .int .i64 r10.1.1.2]⟩), (55, .agg ⟨[.int .i64 p4, .int .i64 p5]⟩), (56, .int .i64 r14), (57, .int .i64 (w64 (0 - r14))), (58, .int .i64 r12)]), heap := [.dead, .cells 23 [.int .i64 p4, .int .i64 p5], .cells 3 [.int .i64 p6], .cells 3 [.int .i64 r12], .cells 108 [.int .i64 r10.1.1.1, .int .i64 r10.1.1.2, .int .i64 r10.1.2.1, .int .i64 r10.1.2.2, .int .i64 r10.2.1.1, .int .i64 r10.2.1.2, .int .i64 r10.2.2.1, .int .i64 r10.2.2.2]], own := [], upds := [] } : QSt)) (fin2 := ({ act := (st 134 [(4, .pointer (some ⟨1, 0, none⟩)), (5, .pointer (some ⟨2, 0, none⟩)), (9, .pointer (some ⟨3, 0, none⟩)), (10, .pointer (some ⟨4, 0, none⟩)), (52, .pointer (some ⟨4, 0, none⟩)), (53, .pointer (some ⟨4, 0, none⟩)), (54, .agg ⟨[.int .i64 r10.1.1.1, .int .i64 r10.1.1.2]⟩), (55, .agg ⟨[.int .i64 p4, .int .i64 p5]⟩), (56, .int .i64 r14), (57, .int .i64 (w64 (0 - r14))), (58, .int .i64 r12)]), heap := [.dead, .cells 23 [.int .i64 p4, .int .i64 p5], .cells 3 [.int .i64 p6], .cells 3 [.int .i64 r12], .cells 108 [.int .i64 r10.1.1.1, .int .i64 r10.1.1.2, .int .i64 r10.1.2.1, .int .i64 r10.1.2.2, .int .i64 r10.2.1.1, .int .i64 r10.2.1.2, .int .i64 r10.2.2.1, .int .i64 r10.2.2.2]], own := [], upds := [] } : QSt)) (a1 := (st 134 [(4, .pointer (some ⟨1, 0, none⟩)), (5, .pointer (some ⟨2, 0, none⟩)), (9, .pointer (some ⟨3, 0, none⟩)), (10, .pointer (some ⟨4, 0, none⟩)), (11, .int .i64 r16), (52, .pointer (some ⟨4, 0, none⟩)), (53, .pointer (some ⟨4, 0, none⟩)), (54, .agg ⟨[.int .i64 r10.1.1.1, .int .i64 r10.1.1.2]⟩), (55, .agg ⟨[.int .i64 p4, .int .i64 p5]⟩), (56, .int .i64 r14), (57, .int .i64 (w64 (0 - r14))), (58, .int .i64 r12), (59, .int .i64 r16)])) (h1 := [.dead, .cells 23 [.int .i64 p4, .int .i64 p5], .cells 3 [.int .i64 p6], .cells 3 [.int .i64 r12], .cells 108 [.int .i64 r10.1.1.1, .int .i64 r10.1.1.2, .int .i64 r10.1.2.1, .int .i64 r10.1.2.2, .int .i64 r10.2.1.1, .int .i64 r10.2.1.2, .int .i64 r10.2.2.1, .int .i64 r10.2.2.2]]) (a2 := (st 134 [(4, .pointer (some ⟨1, 0, none⟩)), (5, .pointer (some ⟨2, 0, none⟩)), (9, .pointer (some ⟨3, 0, none⟩)), (10, .pointer (some ⟨4, 0, none⟩)), (11, .int .i64 r16)])) (h2 := [.dead, .cells 23 [.int .i64 p4, .int .i64 p5], .cells 3 [.int .i64 p6], .cells 3 [.int .i64 r12], .cells 108 [.int .i64 r10.1.1.1, .int .i64 r10.1.1.2, .int .i64 r10.1.2.1, .int .i64 r10.1.2.2, .int .i64 r10.2.1.1, .int .i64 r10.2.1.2, .int .i64 r10.2.2.1, .int .i64 r10.2.2.2]]) [⟨59, [.agg ⟨[.int .i64 r10.1.1.1, .int .i64 r10.1.1.2]⟩, .agg ⟨[.int .i64 p4, .int .i64 p5]⟩], [.dead, .cells 23 [.int .i64 p4, .int .i64 p5], .cells 3 [.int .i64 p6], .cells 3 [.int .i64 r12], .cells 108 [.int .i64 r10.1.1.1, .int .i64 r10.1.1.2, .int .i64 r10.1.2.1, .int .i64 r10.1.2.2, .int .i64 r10.2.1.1, .int .i64 r10.2.1.2, .int .i64 r10.2.2.1, .int .i64 r10.2.2.2]], .int .i64 r14, []⟩, ⟨69, [.int .i64 (w64 (0 - r14)), .int .i64 r12], [.dead, .cells 23 [.int .i64 p4, .int .i64 p5], .cells 3 [.int .i64 p6], .cells 3 [.int .i64 r12], .cells 108 [.int .i64 r10.1.1.1, .int .i64 r10.1.1.2, .int .i64 r10.1.2.1, .int .i64 r10.1.2.2, .int .i64 r10.2.1.1, .int .i64 r10.2.1.2, .int .i64 r10.2.2.1, .int .i64 r10.2.2.2]], .int .i64 r16, []⟩] hT mixed (by kernel_rfl) rfl 7 (by kernel_rfl) [] ?_ rfl (.inl ⟨rfl, rfl⟩) ?_ [4, 5, 9, 10, 11] [1, 2, 3, 4] (by kernel_rfl) ?_
          · refine QI.run (s1 := ({ act := (st 134 [(4, .pointer (some ⟨1, 0, none⟩)), (5, .pointer (some ⟨2, 0, none⟩)), (9, .pointer (some ⟨3, 0, none⟩)), (10, .pointer (some ⟨4, 0, none⟩)), (52, .pointer (some ⟨4, 0, none⟩)), (53, .pointer (some ⟨4, 0, none⟩)), (54, .agg ⟨[.int .i64 r10.1.1.1, .int .i64 r10.1.1.2]⟩), (55, .agg ⟨[.int .i64 p4, .int .i64 p5]⟩)]), heap := [.dead, .cells 23 [.int .i64 p4, .int .i64 p5], .cells 3 [.int .i64 p6], .cells 3 [.int .i64 r12], .cells 108 [.int .i64 r10.1.1.1, .int .i64 r10.1.1.2, .int .i64 r10.1.2.1, .int .i64 r10.1.2.2, .int .i64 r10.2.1.1, .int .i64 r10.2.1.2, .int .i64 r10.2.2.1, .int .i64 r10.2.2.2]], own := [], upds := [] } : QSt)) 4 (by kernel_rfl) (by kernel_rfl) ?_
            refine QI.op (q := { val := .int .i64 r14, new := [] }) (s1 := ({ act := (st 134 [(4, .pointer (some ⟨1, 0, none⟩)), (5, .pointer (some ⟨2, 0, none⟩)), (9, .pointer (some ⟨3, 0, none⟩)), (10, .pointer (some ⟨4, 0, none⟩)), (52, .pointer (some ⟨4, 0, none⟩)), (53, .pointer (some ⟨4, 0, none⟩)), (54, .agg ⟨[.int .i64 r10.1.1.1, .int .i64 r10.1.1.2]⟩), (55, .agg ⟨[.int .i64 p4, .int .i64 p5]⟩), (56, .int .i64 r14)]), heap := [.dead, .cells 23 [.int .i64 p4, .int .i64 p5], .cells 3 [.int .i64 p6], .cells 3 [.int .i64 r12], .cells 108 [.int .i64 r10.1.1.1, .int .i64 r10.1.1.2, .int .i64 r10.1.2.1, .int .i64 r10.1.2.2, .int .i64 r10.2.1.1, .int .i64 r10.2.1.2, .int .i64 r10.2.2.1, .int .i64 r10.2.2.2]], own := [], upds := [] } : QSt)) (by decide) (qOf_call (g := 59) (args := [.agg ⟨[.int .i64 r10.1.1.1, .int .i64 r10.1.1.2]⟩, .agg ⟨[.int .i64 p4, .int .i64 p5]⟩]) (by kernel_rfl) lookC_hit) (by kernel_rfl) ?_
            refine QI.run (s1 := ({ act := (st 134 [(4, .pointer (some ⟨1, 0, none⟩)), (5, .pointer (some ⟨2, 0, none⟩)), (9, .pointer (some ⟨3, 0, none⟩)), (10, .pointer (some ⟨4, 0, none⟩)), (52, .pointer (some ⟨4, 0, none⟩)), (53, .pointer (some ⟨4, 0, none⟩)), (54, .agg ⟨[.int .i64 r10.1.1.1, .int .i64 r10.1.1.2]⟩), (55, .agg ⟨[.int .i64 p4, .int .i64 p5]⟩), (56, .int .i64 r14), (57, .int .i64 (w64 (0 - r14))), (58, .int .i64 r12)]), heap := [.dead, .cells 23 [.int .i64 p4, .int .i64 p5], .cells 3 [.int .i64 p6], .cells 3 [.int .i64 r12], .cells 108 [.int .i64 r10.1.1.1, .int .i64 r10.1.1.2, .int .i64 r10.1.2.1, .int .i64 r10.1.2.2, .int .i64 r10.2.1.1, .int .i64 r10.2.1.2, .int .i64 r10.2.2.1, .int .i64 r10.2.2.2]], own := [], upds := [] } : QSt)) 2 (by kernel_rfl) (by kernel_rfl) ?_
            exact QI.done (by kernel_rfl)
          · refine SI.op (q := { val := .int .i64 r16, new := [] }) (a2 := (st 134 [(4, .pointer (some ⟨1, 0, none⟩)), (5, .pointer (some ⟨2, 0, none⟩)), (9, .pointer (some ⟨3, 0, none⟩)), (10, .pointer (some ⟨4, 0, none⟩)), (52, .pointer (some ⟨4, 0, none⟩)), (53, .pointer (some ⟨4, 0, none⟩)), (54, .agg ⟨[.int .i64 r10.1.1.1, .int .i64 r10.1.1.2]⟩), (55, .agg ⟨[.int .i64 p4, .int .i64 p5]⟩), (56, .int .i64 r14), (57, .int .i64 (w64 (0 - r14))), (58, .int .i64 r12), (59, .int .i64 r16)])) (h2 := [.dead, .cells 23 [.int .i64 p4, .int .i64 p5], .cells 3 [.int .i64 p6], .cells 3 [.int .i64 r12], .cells 108 [.int .i64 r10.1.1.1, .int .i64 r10.1.1.2, .int .i64 r10.1.2.1, .int .i64 r10.1.2.2, .int .i64 r10.2.1.1, .int .i64 r10.2.1.2, .int .i64 r10.2.2.1, .int .i64 r10.2.2.2]]) (by kernel_rfl) (qOf_call (g := 69) (args := [.int .i64 (w64 (0 - r14)), .int .i64 r12]) (by kernel_rfl) (lookC_skip (fun hg => absurd (show (59 : Nat) = 69 from hg) (by decide)) lookC_hit)) (by kernel_rfl) (by kernel_rfl) ?_
            refine SI.run (a2 := (st 134 [(4, .pointer (some ⟨1, 0, none⟩)), (5, .pointer (some ⟨2, 0, none⟩)), (9, .pointer (some ⟨3, 0, none⟩)), (10, .pointer (some ⟨4, 0, none⟩)), (11, .int .i64 r16), (52, .pointer (some ⟨4, 0, none⟩)), (53, .pointer (some ⟨4, 0, none⟩)), (54, .agg ⟨[.int .i64 r10.1.1.1, .int .i64 r10.1.1.2]⟩), (55, .agg ⟨[.int .i64 p4, .int .i64 p5]⟩), (56, .int .i64 r14), (57, .int .i64 (w64 (0 - r14))), (58, .int .i64 r12), (59, .int .i64 r16)])) (h2 := [.dead, .cells 23 [.int .i64 p4, .int .i64 p5], .cells 3 [.int .i64 p6], .cells 3 [.int .i64 r12], .cells 108 [.int .i64 r10.1.1.1, .int .i64 r10.1.1.2, .int .i64 r10.1.2.1, .int .i64 r10.1.2.2, .int .i64 r10.2.1.1, .int .i64 r10.2.1.2, .int .i64 r10.2.2.1, .int .i64 r10.2.2.2]]) 1 (by kernel_rfl) ?_
            exact SI.done (by kernel_rfl)
          refine TS.seq' (x := c34.s2.s2.s2.s2.s2.s2.s2.s1) (y := c34.s2.s2.s2.s2.s2.s2.s2.s2) (by kernel_rfl) ?_
          have hX := of_do hF
          clear hF
          obtain ⟨r18, h19, hF⟩ := hX
          refine TS.region' (id := 12) (b := false) (ops := c34.s2.s2.s2.s2.s2.s2.s2.s1.rops) (by kernel_rfl) rfl ?_
          refine TI.run 1 [4, 5, 10, 11, 60] [1, 2, 3, 4] (a2 := (st 134 [(4, .pointer (some ⟨1, 0, none⟩)), (5, .pointer (some ⟨2, 0, none⟩)), (10, .pointer (some ⟨4, 0, none⟩)), (11, .int .i64 r16), (60, .func (.func 71) ⟨[]⟩ ⟨[.pointer (some ⟨3, 0, none⟩), .pointer (some ⟨2, 0, none⟩), .pointer (some ⟨4, 0, none⟩)]⟩)])) (h2 := [.dead, .cells 23 [.int .i64 p4, .int .i64 p5], .cells 3 [.int .i64 p6], .cells 3 [.int .i64 r12], .cells 108 [.int .i64 r10.1.1.1, .int .i64 r10.1.1.2, .int .i64 r10.1.2.1, .int .i64 r10.1.2.2, .int .i64 r10.2.1.1, .int .i64 r10.2.1.2, .int .i64 r10.2.2.1, .int .i64 r10.2.2.2]]) (by kernel_rfl) ?_
          refine TI.callM (g := 70) (args := [.func (.func 71) ⟨[]⟩ ⟨[.pointer (some ⟨3, 0, none⟩), .pointer (some ⟨2, 0, none⟩), .pointer (some ⟨4, 0, none⟩)]⟩]) (v := .int .i64 r18) (new := []) (by kernel_rfl) (PureSim.ren (hc := [.cells 3 [.int .i64 r12], .cells 3 [.int .i64 p6], .cells 108 [.int .i64 r10.1.1.1, .int .i64 r10.1.1.2, .int .i64 r10.1.2.1, .int .i64 r10.1.2.2, .int .i64 r10.2.1.1, .int .i64 r10.2.1.2, .int .i64 r10.2.2.1, .int .i64 r10.2.2.2]]) (fun i => List.getD [(3, 0), (2, 0), (4, 0)] i (0, 0)) (C70 r12 p6 r10.1.1.1 r10.1.1.2 r10.1.2.1 r10.1.2.2 r10.2.1.1 r10.2.1.2 r10.2.2.1 r10.2.2.2 r18 h19) (.cons (At.blk (by kernel_rfl) (RnB.lit (.cons (.flat (by kernel_rfl)) .nil))) (.cons (At.blk (by kernel_rfl) (RnB.lit (.cons (.flat (by kernel_rfl)) .nil))) (.cons (At.blk (by kernel_rfl) (RnB.lit (.cons (.flat (by kernel_rfl)) (.cons (.flat (by kernel_rfl)) (.cons (.flat (by kernel_rfl)) (.cons (.flat (by kernel_rfl)) (.cons (.flat (by kernel_rfl)) (.cons (.flat (by kernel_rfl)) (.cons (.flat (by kernel_rfl)) (.cons (.flat (by kernel_rfl)) .nil)))))))))) (.nil _)))) (.cons (Rn.func' .nil (.cons (Rn.ptr _ _ _ (Nat.le_of_ble_eq_true rfl) rfl) (.cons (Rn.ptr _ _ _ (Nat.le_of_ble_eq_true rfl) rfl) (.cons (Rn.ptr _ _ _ (Nat.le_of_ble_eq_true rfl) rfl) .nil)))) .nil) (.flat (by kernel_rfl)) newflat_nil) [4, 5, 10, 11, 61] [1, 2, 4] (a2 := (st 134 [(4, .pointer (some ⟨1, 0, none⟩)), (5, .pointer (some ⟨2, 0, none⟩)), (10, .pointer (some ⟨4, 0, none⟩)), (11, .int .i64 r16), (61, .int .i64 r18)])) (h2 := [.dead, .cells 23 [.int .i64 p4, .int .i64 p5], .cells 3 [.int .i64 p6], .dead, .cells 108 [.int .i64 r10.1.1.1, .int .i64 r10.1.1.2, .int .i64 r10.1.2.1, .int .i64 r10.1.2.2, .int .i64 r10.2.1.1, .int .i64 r10.2.1.2, .int .i64 r10.2.2.1, .int .i64 r10.2.2.2]]) (by kernel_rfl) ?_
          refine TI.run 1 [4, 5, 10, 11, 12] [1, 2, 4] (a2 := (st 134 [(4, .pointer (some ⟨1, 0, none⟩)), (5, .pointer (some ⟨2, 0, none⟩)), (10, .pointer (some ⟨4, 0, none⟩)), (11, .int .i64 r16), (12, .int .i64 r18)])) (h2 := [.dead, .cells 23 [.int .i64 p4, .int .i64 p5], .cells 3 [.int .i64 p6], .dead, .cells 108 [.int .i64 r10.1.1.1, .int .i64 r10.1.1.2, .int .i64 r10.1.2.1, .int .i64 r10.1.2.2, .int .i64 r10.2.1.1, .int .i64 r10.2.1.2, .int .i64 r10.2.2.1, .int .i64 r10.2.2.2]]) (by kernel_rfl) ?_
          refine TI.done (by kernel_rfl) ?_
          refine NX.sq ?_
          refine TS.seq' (x := c34.s2.s2.s2.s2.s2.s2.s2.s2.s1) (y := c34.s2.s2.s2.s2.s2.s2.s2.s2.s2) (by kernel_rfl) ?_
          refine TS.region' (id := 13) (b := false) (ops := c34.s2.s2.s2.s2.s2.s2.s2.s2.s1.rops) (by kernel_rfl) rfl ?_
          refine TI.run 1 [4, 5, 10, 11, 12, 13] [1, 2, 4] (a2 := (st 134 [(4, .pointer (some ⟨1, 0, none⟩)), (5, .pointer (some ⟨2, 0, none⟩)), (10, .pointer (some ⟨4, 0, none⟩)), (11, .int .i64 r16), (12, .int .i64 r18), (13, .int .i64 0)])) (h2 := [.dead, .cells 23 [.int .i64 p4, .int .i64 p5], .cells 3 [.int .i64 p6], .dead, .cells 108 [.int .i64 r10.1.1.1, .int .i64 r10.1.1.2, .int .i64 r10.1.2.1, .int .i64 r10.1.2.2, .int .i64 r10.2.1.1, .int .i64 r10.2.1.2, .int .i64 r10.2.2.1, .int .i64 r10.2.2.2]]) (by kernel_rfl) ?_
          refine TI.done (by kernel_rfl) ?_
          refine NX.sq ?_
          refine TS.seq' (x := c34.s2.s2.s2.s2.s2.s2.s2.s2.s2.s1) (y := c34.s2.s2.s2.s2.s2.s2.s2.s2.s2.s2) (by kernel_rfl) ?_
          refine TS.seq' (x := c34.s2.s2.s2.s2.s2.s2.s2.s2.s2.s1.s1) (y := c34.s2.s2.s2.s2.s2.s2.s2.s2.s2.s1.s2) (by kernel_rfl) ?_
          refine TS.region' (id := 14) (b := false) (ops := c34.s2.s2.s2.s2.s2.s2.s2.s2.s2.s1.s1.rops) (by kernel_rfl) rfl ?_
          refine TI.run 4 [4, 5, 10, 11, 12, 13, 14] [1, 2, 4] (a2 := (st 134 [(4, .pointer (some ⟨1, 0, none⟩)), (5, .pointer (some ⟨2, 0, none⟩)), (10, .pointer (some ⟨4, 0, none⟩)), (11, .int .i64 r16), (12, .int .i64 r18), (13, .int .i64 0), (14, .int .i64 (w64 (r16 - r18)))])) (h2 := [.dead, .cells 23 [.int .i64 p4, .int .i64 p5], .cells 3 [.int .i64 p6], .dead, .cells 108 [.int .i64 r10.1.1.1, .int .i64 r10.1.1.2, .int .i64 r10.1.2.1, .int .i64 r10.1.2.2, .int .i64 r10.2.1.1, .int .i64 r10.2.1.2, .int .i64 r10.2.2.1, .int .i64 r10.2.2.2]]) (by kernel_rfl) ?_
          refine TI.done (by kernel_rfl) ?_
          refine NX.sq ?_
          refine TS.block' (id := 1) (x := c34.s2.s2.s2.s2.s2.s2.s2.s2.s2.s1.s2.bd) (by kernel_rfl) ?_
          have hX := of_do hF
          clear hF
          obtain ⟨r194, h195, hF⟩ := hX
          refine TS.loop' (x := c34.s2.s2.s2.s2.s2.s2.s2.s2.s2.s1.s2.bd.bd) (by kernel_rfl) (TL.weak (a2 := (st 134 [(4, .pointer (some ⟨0, 0, none⟩)), (5, .pointer (some ⟨1, 0, none⟩)), (10, .pointer (some ⟨2, 0, none⟩)), (11, .int .i64 r16), (12, .int .i64 r18), (13, .int .i64 0), (14, .int .i64 (w64 (r16 - r18)))])) (h2 := [.cells 23 [.int .i64 p4, .int .i64 p5], .cells 3 [.int .i64 p6], .cells 108 [.int .i64 r10.1.1.1, .int .i64 r10.1.1.2, .int .i64 r10.1.2.1, .int .i64 r10.1.2.2, .int .i64 r10.2.1.1, .int .i64 r10.2.1.2, .int .i64 r10.2.2.1, .int .i64 r10.2.2.2]]) (Wk.anew (base := 0) (L := 0) (f := [1, 2, 4]) (by decide) (by decide) (Nat.le_of_ble_eq_true rfl) rfl (.cons (At.blk (by kernel_rfl) (RnB.lit (.cons (.flat (by kernel_rfl)) (.cons (.flat (by kernel_rfl)) .nil)))) (.cons (At.blk (by kernel_rfl) (RnB.lit (.cons (.flat (by kernel_rfl)) .nil))) (.cons (At.blk (by kernel_rfl) (RnB.lit (.cons (.flat (by kernel_rfl)) (.cons (.flat (by kernel_rfl)) (.cons (.flat (by kernel_rfl)) (.cons (.flat (by kernel_rfl)) (.cons (.flat (by kernel_rfl)) (.cons (.flat (by kernel_rfl)) (.cons (.flat (by kernel_rfl)) (.cons (.flat (by kernel_rfl)) .nil)))))))))) (.nil _)))) (LRn.stx [4, 5, 10, 11, 12, 13, 14] [.pointer (some ⟨0, 0, none⟩), .pointer (some ⟨1, 0, none⟩), .pointer (some ⟨2, 0, none⟩), .int .i64 r16, .int .i64 r18, .int .i64 0, .int .i64 (w64 (r16 - r18))] [.pointer (some ⟨1, 0, none⟩), .pointer (some ⟨2, 0, none⟩), .pointer (some ⟨4, 0, none⟩), .int .i64 r16, .int .i64 r18, .int .i64 0, .int .i64 (w64 (r16 - r18))] (.cons (Rn.ptr _ _ _ (Nat.le_of_ble_eq_true rfl) rfl) (.cons (Rn.ptr _ _ _ (Nat.le_of_ble_eq_true rfl) rfl) (.cons (Rn.ptr _ _ _ (Nat.le_of_ble_eq_true rfl) rfl) (.cons (.flat (by kernel_rfl)) (.cons (.flat (by kernel_rfl)) (.cons (.flat (by kernel_rfl)) (.cons (.flat (by kernel_rfl)) .nil))))))) (by kernel_rfl) (by kernel_rfl) rfl) rfl rfl) (TL.post (L34l0 p4 p5 p6 r10 r16 r18 0 (w64 (r16 - r18)) r194 h195) ?_))
          rintro e a1 h1 hp
          obtain ⟨rfl, hw⟩ := hp
          refine ⟨(st 134 [(13, .int .i64 r194)]), [], ?_, hw⟩
          refine NX.bkX ?_
          refine NX.sq ?_
          refine TS.seq' (x := c34.s2.s2.s2.s2.s2.s2.s2.s2.s2.s2.s1) (y := c34.s2.s2.s2.s2.s2.s2.s2.s2.s2.s2.s2) (by kernel_rfl) ?_
          refine TS.region' (id := 31) (b := false) (ops := c34.s2.s2.s2.s2.s2.s2.s2.s2.s2.s2.s1.rops) (by kernel_rfl) rfl ?_
          refine TI.run 3 [6, 7] [] (a2 := (st 134 [(6, .int .i64 r194), (7, .int .i64 0)])) (h2 := []) (by kernel_rfl) ?_
          refine TI.done (by kernel_rfl) ?_
          refine NX.sq ?_
          refine TS.ret' (by kernel_rfl) ?_
          have hF := Option.some.inj hF
          subst hF
          exact ⟨.inr rfl, rfl, .tuple ⟨[.int .i64 r194, .int .i64 0]⟩, by kernel_rfl, WkV.flat0 (by kernel_rfl) (Nat.le_of_ble_eq_true rfl)⟩
    cases r6 with
    | true =>
      replace hm196 := of_pos hm196 rfl
      have hm196 := Option.some.inj hm196
      subst hm196
      refine TS.region' (id := 5) (b := false) (ops := c34.s2.s2.s2.s1.bd.s2.el.s1.rops) (by kernel_rfl) rfl ?_
      refine TI.run 1 [3, 4, 5, 9, 32] [0, 1, 2, 3] (a2 := (st 134 [(3, .pointer (some ⟨0, 0, none⟩)), (4, .pointer (some ⟨1, 0, none⟩)), (5, .pointer (some ⟨2, 0, none⟩)), (9, .pointer (some ⟨3, 0, none⟩)), (32, .int .i64 p6)])) (h2 := [.cells 25 [.int .i64 p0, .int .i64 p1, .int .i64 p2, .int .i64 p3], .cells 23 [.int .i64 p4, .int .i64 p5], .cells 3 [.int .i64 p6], .cells 3 [.int .i64 r3]]) (by kernel_rfl) ?_
      refine TI.callM (g := 68) (args := [.int .i64 0, .int .i64 p6, .int .i64 1000000000]) (v := .bool true) (new := []) (by kernel_rfl) (PureSim.any (C68 0 p6 1000000000 true h7) (flatL (by kernel_rfl)) (by kernel_rfl) [.cells 25 [.int .i64 p0, .int .i64 p1, .int .i64 p2, .int .i64 p3], .cells 23 [.int .i64 p4, .int .i64 p5], .cells 3 [.int .i64 p6], .cells 3 [.int .i64 r3]]) [3, 4, 5, 9, 33] [0, 1, 2, 3] (a2 := (st 134 [(3, .pointer (some ⟨0, 0, none⟩)), (4, .pointer (some ⟨1, 0, none⟩)), (5, .pointer (some ⟨2, 0, none⟩)), (9, .pointer (some ⟨3, 0, none⟩)), (33, .bool true)])) (h2 := [.cells 25 [.int .i64 p0, .int .i64 p1, .int .i64 p2, .int .i64 p3], .cells 23 [.int .i64 p4, .int .i64 p5], .cells 3 [.int .i64 p6], .cells 3 [.int .i64 r3]]) (by kernel_rfl) ?_
      refine TI.run 2 [3, 4, 5, 9, 31] [0, 1, 2, 3] (a2 := (st 134 [(3, .pointer (some ⟨0, 0, none⟩)), (4, .pointer (some ⟨1, 0, none⟩)), (5, .pointer (some ⟨2, 0, none⟩)), (9, .pointer (some ⟨3, 0, none⟩)), (31, .bool false)])) (h2 := [.cells 25 [.int .i64 p0, .int .i64 p1, .int .i64 p2, .int .i64 p3], .cells 23 [.int .i64 p4, .int .i64 p5], .cells 3 [.int .i64 p6], .cells 3 [.int .i64 r3]]) (by kernel_rfl) ?_
      refine TI.done (by kernel_rfl) ?_
      exact hK
    | false =>
      replace hm196 := of_neg hm196 rfl
      have hm196 := Option.some.inj hm196
      subst hm196
      refine TS.region' (id := 5) (b := false) (ops := c34.s2.s2.s2.s1.bd.s2.el.s1.rops) (by kernel_rfl) rfl ?_
      refine TI.run 1 [3, 4, 5, 9, 32] [0, 1, 2, 3] (a2 := (st 134 [(3, .pointer (some ⟨0, 0, none⟩)), (4, .pointer (some ⟨1, 0, none⟩)), (5, .pointer (some ⟨2, 0, none⟩)), (9, .pointer (some ⟨3, 0, none⟩)), (32, .int .i64 p6)])) (h2 := [.cells 25 [.int .i64 p0, .int .i64 p1, .int .i64 p2, .int .i64 p3], .cells 23 [.int .i64 p4, .int .i64 p5], .cells 3 [.int .i64 p6], .cells 3 [.int .i64 r3]]) (by kernel_rfl) ?_
      refine TI.callM (g := 68) (args := [.int .i64 0, .int .i64 p6, .int .i64 1000000000]) (v := .bool false) (new := []) (by kernel_rfl) (PureSim.any (C68 0 p6 1000000000 false h7) (flatL (by kernel_rfl)) (by kernel_rfl) [.cells 25 [.int .i64 p0, .int .i64 p1, .int .i64 p2, .int .i64 p3], .cells 23 [.int .i64 p4, .int .i64 p5], .cells 3 [.int .i64 p6], .cells 3 [.int .i64 r3]]) [3, 4, 5, 9, 33] [0, 1, 2, 3] (a2 := (st 134 [(3, .pointer (some ⟨0, 0, none⟩)), (4, .pointer (some ⟨1, 0, none⟩)), (5, .pointer (some ⟨2, 0, none⟩)), (9, .pointer (some ⟨3, 0, none⟩)), (33, .bool false)])) (h2 := [.cells 25 [.int .i64 p0, .int .i64 p1, .int .i64 p2, .int .i64 p3], .cells 23 [.int .i64 p4, .int .i64 p5], .cells 3 [.int .i64 p6], .cells 3 [.int .i64 r3]]) (by kernel_rfl) ?_
      refine TI.run 2 [3, 4, 5, 9, 31] [0, 1, 2, 3] (a2 := (st 134 [(3, .pointer (some ⟨0, 0, none⟩)), (4, .pointer (some ⟨1, 0, none⟩)), (5, .pointer (some ⟨2, 0, none⟩)), (9, .pointer (some ⟨3, 0, none⟩)), (31, .bool true)])) (h2 := [.cells 25 [.int .i64 p0, .int .i64 p1, .int .i64 p2, .int .i64 p3], .cells 23 [.int .i64 p4, .int .i64 p5], .cells 3 [.int .i64 p6], .cells 3 [.int .i64 r3]]) (by kernel_rfl) ?_
      refine TI.done (by kernel_rfl) ?_
      exact hK
theorem C34 (p0 : Int) (p1 : Int) (p2 : Int) (p3 : Int) (p4 : Int) (p5 : Int) (p6 : Int) (r : (Int × Int)) (hF : F34 p0 p1 p2 p3 p4 p5 p6 = some r) : PureSim Try.prog 34 [.agg ⟨[.int .i64 p0, .int .i64 p1, .int .i64 p2, .int .i64 p3]⟩, .agg ⟨[.int .i64 p4, .int .i64 p5]⟩, .int .i64 p6] [] (V34 0 r) (N34 0 r) :=
  PureSim.of_Fin Try.func34 (c := c34) (by kernel_rfl) (by kernel_rfl) 0 rfl [0, 1, 2] [] (by kernel_rfl) (B34 p0 p1 p2 p3 p4 p5 p6 r hF)

-- agonic/agoniclaw06.given
noncomputable def c13 : Code := Try.f13.code
def F13 (p0 : Int) (p1 : Int) (p2 : Int) (p3 : Int) : Option ((Int × Int) × (Int × Int)) :=
  some ((p0, p1), (p2, p3))
def V13 (b : Nat) (r : ((Int × Int) × (Int × Int))) : Value := .agg ⟨[.int .i64 r.1.1, .int .i64 r.1.2, .int .i64 r.2.1, .int .i64 r.2.2]⟩
def N13 (b : Nat) (r : ((Int × Int) × (Int × Int))) : List Blk := []
theorem B13 (p0 : Int) (p1 : Int) (p2 : Int) (p3 : Int) (r : ((Int × Int) × (Int × Int))) (hF : F13 p0 p1 p2 p3 = some r) : TS Try.prog 0 0 c13 (st 8 [(0, .agg ⟨[.int .i64 p0, .int .i64 p1, .int .i64 p2, .int .i64 p3]⟩)]) [] (NX Try.prog 0 0 [] (FinP Try.prog Try.f13 0 (V13 0 r) (N13 0 r))) := by
  unfold F13 at hF
  refine TS.seq' (x := c13.s1) (y := c13.s2) (by kernel_rfl) ?_
  refine TS.region' (id := 0) (b := false) (ops := c13.s1.rops) (by kernel_rfl) rfl ?_
  refine TI.run 2 [1, 2] [0, 1] (a2 := (st 8 [(1, .pointer (some ⟨0, 0, none⟩)), (2, .pointer (some ⟨1, 0, none⟩))])) (h2 := [.cells 25 [.int .i64 p0, .int .i64 p1, .int .i64 p2, .int .i64 p3], .cells 30 [.int .i64 0, .int .i64 0, .int .i64 0, .int .i64 0]]) (by kernel_rfl) ?_
  refine TI.done (by kernel_rfl) ?_
  refine NX.sq ?_
  refine TS.seq' (x := c13.s2.s1) (y := c13.s2.s2) (by kernel_rfl) ?_
  refine TS.region' (id := 1) (b := false) (ops := c13.s2.s1.rops) (by kernel_rfl) rfl ?_
  refine TI.run 6 [2] [1] (a2 := (st 8 [(2, .pointer (some ⟨1, 0, none⟩))])) (h2 := [.dead, .cells 30 [.int .i64 p0, .int .i64 p1, .int .i64 p2, .int .i64 p3]]) (by kernel_rfl) ?_
  refine TI.done (by kernel_rfl) ?_
  refine NX.sq ?_
  refine TS.ret' (by kernel_rfl) ?_
  have hF := Option.some.inj hF
  subst hF
  exact ⟨.inr rfl, rfl, .agg ⟨[.int .i64 p0, .int .i64 p1, .int .i64 p2, .int .i64 p3]⟩, by kernel_rfl, WkV.flat0 (by kernel_rfl) (Nat.le_of_ble_eq_true rfl)⟩
theorem C13 (p0 : Int) (p1 : Int) (p2 : Int) (p3 : Int) (r : ((Int × Int) × (Int × Int))) (hF : F13 p0 p1 p2 p3 = some r) : PureSim Try.prog 13 [.agg ⟨[.int .i64 p0, .int .i64 p1, .int .i64 p2, .int .i64 p3]⟩] [] (V13 0 r) (N13 0 r) :=
  PureSim.of_Fin Try.func13 (c := c13) (by kernel_rfl) (by kernel_rfl) 0 rfl [0] [] (by kernel_rfl) (B13 p0 p1 p2 p3 r hF)

-- agonic/agoniclaw06.placed
noncomputable def c18 : Code := Try.f18.code
def F18 (p0 : Int) (p1 : Int) : Option (Int × Int) :=
  some (p0, p1)
def V18 (b : Nat) (r : (Int × Int)) : Value := .agg ⟨[.int .i64 r.1, .int .i64 r.2]⟩
def N18 (b : Nat) (r : (Int × Int)) : List Blk := []
theorem B18 (p0 : Int) (p1 : Int) (r : (Int × Int)) (hF : F18 p0 p1 = some r) : TS Try.prog 0 0 c18 (st 4 [(0, .agg ⟨[.int .i64 p0, .int .i64 p1]⟩)]) [] (NX Try.prog 0 0 [] (FinP Try.prog Try.f18 0 (V18 0 r) (N18 0 r))) := by
  unfold F18 at hF
  refine TS.seq' (x := c18.s1) (y := c18.s2) (by kernel_rfl) ?_
  refine TS.region' (id := 0) (b := false) (ops := c18.s1.rops) (by kernel_rfl) rfl ?_
  refine TI.run 2 [1, 2] [0, 1] (a2 := (st 4 [(1, .pointer (some ⟨0, 0, none⟩)), (2, .pointer (some ⟨1, 0, none⟩))])) (h2 := [.cells 23 [.int .i64 p0, .int .i64 p1], .cells 28 [.int .i64 0, .int .i64 0]]) (by kernel_rfl) ?_
  refine TI.done (by kernel_rfl) ?_
  refine NX.sq ?_
  refine TS.seq' (x := c18.s2.s1) (y := c18.s2.s2) (by kernel_rfl) ?_
  refine TS.region' (id := 1) (b := false) (ops := c18.s2.s1.rops) (by kernel_rfl) rfl ?_
  refine TI.run 2 [2] [1] (a2 := (st 4 [(2, .pointer (some ⟨1, 0, none⟩))])) (h2 := [.dead, .cells 28 [.int .i64 p0, .int .i64 p1]]) (by kernel_rfl) ?_
  refine TI.done (by kernel_rfl) ?_
  refine NX.sq ?_
  refine TS.ret' (by kernel_rfl) ?_
  have hF := Option.some.inj hF
  subst hF
  exact ⟨.inr rfl, rfl, .agg ⟨[.int .i64 p0, .int .i64 p1]⟩, by kernel_rfl, WkV.flat0 (by kernel_rfl) (Nat.le_of_ble_eq_true rfl)⟩
theorem C18 (p0 : Int) (p1 : Int) (r : (Int × Int)) (hF : F18 p0 p1 = some r) : PureSim Try.prog 18 [.agg ⟨[.int .i64 p0, .int .i64 p1]⟩] [] (V18 0 r) (N18 0 r) :=
  PureSim.of_Fin Try.func18 (c := c18) (by kernel_rfl) (by kernel_rfl) 0 rfl [0] [] (by kernel_rfl) (B18 p0 p1 r hF)

-- agonic/agonicref06.is
noncomputable def c73 : Code := Try.f73.code
def F73 (p0 : Int) (p1 : Int) (p2 : Int) : Option Bool :=
  (
    if decide (p0 ≥ p1) then
      some (decide (p0 ≤ p2))
    else
      some (false)
  : Option Bool) >>= fun m2 =>
  some m2
def V73 (b : Nat) (r : Bool) : Value := .bool r
def N73 (b : Nat) (r : Bool) : List Blk := []
theorem B73 (p0 : Int) (p1 : Int) (p2 : Int) (r : Bool) (hF : F73 p0 p1 p2 = some r) : TS Try.prog 0 0 c73 (st 15 [(0, .int .i64 p0), (1, .int .i64 p1), (2, .int .i64 p2)]) [] (NX Try.prog 0 0 [] (FinP Try.prog Try.f73 0 (V73 0 r) (N73 0 r))) := by
  unfold F73 at hF
  refine TS.seq' (x := c73.s1) (y := c73.s2) (by kernel_rfl) ?_
  refine TS.region' (id := 0) (b := false) (ops := c73.s1.rops) (by kernel_rfl) rfl ?_
  refine TI.run 1 [0, 1, 2] [] (a2 := (st 15 [(0, .int .i64 p0), (1, .int .i64 p1), (2, .int .i64 p2)])) (h2 := []) (by kernel_rfl) ?_
  refine TI.done (by kernel_rfl) ?_
  refine NX.sq ?_
  refine TS.seq' (x := c73.s2.s1) (y := c73.s2.s2) (by kernel_rfl) ?_
  have hX := of_do hF
  clear hF
  obtain ⟨m2, hm3, hF⟩ := hX
  have hK : NX Try.prog 0 0 [.sq c73.s2.s2] (FinP Try.prog Try.f73 0 (V73 0 r) (N73 0 r)) .normal (st 15 [(6, .bool m2)]) [] := by
    refine NX.sq ?_
    refine TS.ret' (by kernel_rfl) ?_
    have hF := Option.some.inj hF
    subst hF
    exact ⟨.inr rfl, rfl, .bool m2, by kernel_rfl, WkV.flat0 (by kernel_rfl) (Nat.le_of_ble_eq_true rfl)⟩
  rcases Bool.eq_false_or_eq_true (decide (p0 ≥ p1)) with hc1 | hc1
  · replace hm3 := of_pos hm3 hc1
    have hm3 := Option.some.inj hm3
    subst hm3
    refine TS.region' (id := 1) (b := false) (ops := c73.s2.s1.rops) (by kernel_rfl) rfl ?_
    refine TI.run 2 [0, 2, 7, 8] [] (a2 := (st 15 [(0, .int .i64 p0), (2, .int .i64 p2), (7, .int .i64 p0), (8, .int .i64 p1)])) (h2 := []) (by kernel_rfl) ?_
    refine TI.op (q := { val := .bool true }) (q_conv (e := decide (p0 ≥ p1)) (b := true) (by kernel_rfl) hc1) [0, 2, 9] [] (a2 := (st 15 [(0, .int .i64 p0), (2, .int .i64 p2), (9, .bool true)])) (h2 := []) (by kernel_rfl) ?_
    refine TI.run 6 [6] [] (a2 := (st 15 [(6, .bool (decide (p0 ≤ p2)))])) (h2 := []) (by kernel_rfl) ?_
    refine TI.done (by kernel_rfl) ?_
    exact hK
  · replace hm3 := of_neg hm3 hc1
    have hm3 := Option.some.inj hm3
    subst hm3
    refine TS.region' (id := 1) (b := false) (ops := c73.s2.s1.rops) (by kernel_rfl) rfl ?_
    refine TI.run 2 [0, 2, 7, 8] [] (a2 := (st 15 [(0, .int .i64 p0), (2, .int .i64 p2), (7, .int .i64 p0), (8, .int .i64 p1)])) (h2 := []) (by kernel_rfl) ?_
    refine TI.op (q := { val := .bool false }) (q_conv (e := decide (p0 ≥ p1)) (b := false) (by kernel_rfl) hc1) [0, 2, 9] [] (a2 := (st 15 [(0, .int .i64 p0), (2, .int .i64 p2), (9, .bool false)])) (h2 := []) (by kernel_rfl) ?_
    refine TI.run 6 [6] [] (a2 := (st 15 [(6, .bool false)])) (h2 := []) (by kernel_rfl) ?_
    refine TI.done (by kernel_rfl) ?_
    exact hK
theorem C73 (p0 : Int) (p1 : Int) (p2 : Int) (r : Bool) (hF : F73 p0 p1 p2 = some r) : PureSim Try.prog 73 [.int .i64 p0, .int .i64 p1, .int .i64 p2] [] (V73 0 r) (N73 0 r) :=
  PureSim.of_Fin Try.func73 (c := c73) (by kernel_rfl) (by kernel_rfl) 0 rfl [0, 1, 2] [] (by kernel_rfl) (B73 p0 p1 p2 r hF)

-- agonic/agonicref06.within
noncomputable def c55 : Code := Try.f55.code
def F55 (p0 : Int) (p1 : Int) (p2 : Int) : Option Bool :=
  F73 p0 (w64 (0 - p2)) p2 >>= fun r1 =>
  (
    if r1 then
      F73 p1 (w64 (0 - p2)) p2 >>= fun r3 =>
      some (r3)
    else
      some (false)
  : Option Bool) >>= fun m5 =>
  some m5
def V55 (b : Nat) (r : Bool) : Value := .bool r
def N55 (b : Nat) (r : Bool) : List Blk := []
theorem B55 (p0 : Int) (p1 : Int) (p2 : Int) (r : Bool) (hF : F55 p0 p1 p2 = some r) : TS Try.prog 0 0 c55 (st 19 [(0, .agg ⟨[.int .i64 p0, .int .i64 p1]⟩), (1, .int .i64 p2)]) [] (NX Try.prog 0 0 [] (FinP Try.prog Try.f55 0 (V55 0 r) (N55 0 r))) := by
  unfold F55 at hF
  refine TS.seq' (x := c55.s1) (y := c55.s2) (by kernel_rfl) ?_
  refine TS.region' (id := 0) (b := false) (ops := c55.s1.rops) (by kernel_rfl) rfl ?_
  refine TI.run 2 [1, 2] [0] (a2 := (st 19 [(1, .int .i64 p2), (2, .pointer (some ⟨0, 0, none⟩))])) (h2 := [.cells 28 [.int .i64 p0, .int .i64 p1]]) (by kernel_rfl) ?_
  refine TI.done (by kernel_rfl) ?_
  refine NX.sq ?_
  refine TS.seq' (x := c55.s2.s1) (y := c55.s2.s2) (by kernel_rfl) ?_
  have hX := of_do hF
  clear hF
  obtain ⟨r1, h2, hF⟩ := hX
  have hX := of_do hF
  clear hF
  obtain ⟨m5, hm6, hF⟩ := hX
  have hK : NX Try.prog 0 0 [.sq c55.s2.s2] (FinP Try.prog Try.f55 0 (V55 0 r) (N55 0 r)) .normal (st 19 [(4, .bool m5)]) [.dead] := by
    refine NX.sq ?_
    refine TS.ret' (by kernel_rfl) ?_
    have hF := Option.some.inj hF
    subst hF
    exact ⟨.inr rfl, rfl, .bool m5, by kernel_rfl, WkV.flat0 (by kernel_rfl) (Nat.le_of_ble_eq_true rfl)⟩
  cases r1 with
  | true =>
    replace hm6 := of_pos hm6 rfl
    have hX := of_do hm6
    clear hm6
    obtain ⟨r3, h4, hm6⟩ := hX
    have hm6 := Option.some.inj hm6
    subst hm6
    refine TS.region' (id := 1) (b := false) (ops := c55.s2.s1.rops) (by kernel_rfl) rfl ?_
    refine TI.run 5 [1, 2, 6, 8, 9] [0] (a2 := (st 19 [(1, .int .i64 p2), (2, .pointer (some ⟨0, 0, none⟩)), (6, .int .i64 p0), (8, .int .i64 (w64 (0 - p2))), (9, .int .i64 p2)])) (h2 := [.cells 28 [.int .i64 p0, .int .i64 p1]]) (by kernel_rfl) ?_
    refine TI.callM (g := 73) (args := [.int .i64 p0, .int .i64 (w64 (0 - p2)), .int .i64 p2]) (v := .bool true) (new := []) (by kernel_rfl) (PureSim.any (C73 p0 (w64 (0 - p2)) p2 true h2) (flatL (by kernel_rfl)) (by kernel_rfl) [.cells 28 [.int .i64 p0, .int .i64 p1]]) [1, 2, 10] [0] (a2 := (st 19 [(1, .int .i64 p2), (2, .pointer (some ⟨0, 0, none⟩)), (10, .bool true)])) (h2 := [.cells 28 [.int .i64 p0, .int .i64 p1]]) (by kernel_rfl) ?_
    refine TI.run 6 [11, 13, 15, 16] [] (a2 := (st 19 [(11, .bool true), (13, .int .i64 p1), (15, .int .i64 (w64 (0 - p2))), (16, .int .i64 p2)])) (h2 := [.dead]) (by kernel_rfl) ?_
    refine TI.callM (g := 73) (args := [.int .i64 p1, .int .i64 (w64 (0 - p2)), .int .i64 p2]) (v := .bool r3) (new := []) (by kernel_rfl) (PureSim.any (C73 p1 (w64 (0 - p2)) p2 r3 h4) (flatL (by kernel_rfl)) (by kernel_rfl) [.dead]) [11, 17] [] (a2 := (st 19 [(11, .bool true), (17, .bool r3)])) (h2 := [.dead]) (by kernel_rfl) ?_
    refine TI.run 2 [4] [] (a2 := (st 19 [(4, .bool r3)])) (h2 := [.dead]) (by kernel_rfl) ?_
    refine TI.done (by kernel_rfl) ?_
    exact hK
  | false =>
    replace hm6 := of_neg hm6 rfl
    have hm6 := Option.some.inj hm6
    subst hm6
    refine TS.region' (id := 1) (b := false) (ops := c55.s2.s1.rops) (by kernel_rfl) rfl ?_
    refine TI.run 5 [1, 2, 6, 8, 9] [0] (a2 := (st 19 [(1, .int .i64 p2), (2, .pointer (some ⟨0, 0, none⟩)), (6, .int .i64 p0), (8, .int .i64 (w64 (0 - p2))), (9, .int .i64 p2)])) (h2 := [.cells 28 [.int .i64 p0, .int .i64 p1]]) (by kernel_rfl) ?_
    refine TI.callM (g := 73) (args := [.int .i64 p0, .int .i64 (w64 (0 - p2)), .int .i64 p2]) (v := .bool false) (new := []) (by kernel_rfl) (PureSim.any (C73 p0 (w64 (0 - p2)) p2 false h2) (flatL (by kernel_rfl)) (by kernel_rfl) [.cells 28 [.int .i64 p0, .int .i64 p1]]) [1, 2, 10] [0] (a2 := (st 19 [(1, .int .i64 p2), (2, .pointer (some ⟨0, 0, none⟩)), (10, .bool false)])) (h2 := [.cells 28 [.int .i64 p0, .int .i64 p1]]) (by kernel_rfl) ?_
    refine TI.run 9 [4] [] (a2 := (st 19 [(4, .bool false)])) (h2 := [.dead]) (by kernel_rfl) ?_
    refine TI.done (by kernel_rfl) ?_
    exact hK
theorem C55 (p0 : Int) (p1 : Int) (p2 : Int) (r : Bool) (hF : F55 p0 p1 p2 = some r) : PureSim Try.prog 55 [.agg ⟨[.int .i64 p0, .int .i64 p1]⟩, .int .i64 p2] [] (V55 0 r) (N55 0 r) :=
  PureSim.of_Fin Try.func55 (c := c55) (by kernel_rfl) (by kernel_rfl) 0 rfl [0, 1] [] (by kernel_rfl) (B55 p0 p1 p2 r hF)

-- agonic/agonicref06.area
noncomputable def c60 : Code := Try.f60.code
def F60 (p0 : Int) (p1 : Int) (p2 : Int) (p3 : Int) : Option Int :=
  some (mx (w64 ((w64 (p0 * p3)) - (w64 (p1 * p2)))) (w64 ((w64 (p1 * p2)) - (w64 (p0 * p3))))) >>= fun o1 =>
  some o1
def V60 (b : Nat) (r : Int) : Value := .int .i64 r
def N60 (b : Nat) (r : Int) : List Blk := []
theorem B60 (p0 : Int) (p1 : Int) (p2 : Int) (p3 : Int) (r : Int) (hF : F60 p0 p1 p2 p3 = some r) : TS Try.prog 0 0 c60 (st 28 [(0, .agg ⟨[.int .i64 p0, .int .i64 p1]⟩), (1, .agg ⟨[.int .i64 p2, .int .i64 p3]⟩)]) [] (NX Try.prog 0 0 [] (FinP Try.prog Try.f60 0 (V60 0 r) (N60 0 r))) := by
  unfold F60 at hF
  refine TS.seq' (x := c60.s1) (y := c60.s2) (by kernel_rfl) ?_
  refine TS.region' (id := 0) (b := false) (ops := c60.s1.rops) (by kernel_rfl) rfl ?_
  refine TI.run 3 [2, 3] [0, 1] (a2 := (st 28 [(2, .pointer (some ⟨0, 0, none⟩)), (3, .pointer (some ⟨1, 0, none⟩))])) (h2 := [.cells 28 [.int .i64 p0, .int .i64 p1], .cells 28 [.int .i64 p2, .int .i64 p3]]) (by kernel_rfl) ?_
  refine TI.done (by kernel_rfl) ?_
  refine NX.sq ?_
  refine TS.seq' (x := c60.s2.s1) (y := c60.s2.s2) (by kernel_rfl) ?_
  have hX := of_do hF
  clear hF
  obtain ⟨o1, h2, hF⟩ := hX
  replace h2 := Option.some.inj h2
  refine TS.region' (id := 1) (b := false) (ops := c60.s2.s1.rops) (by kernel_rfl) rfl ?_
  refine TI.run 22 [15, 26] [] (a2 := (st 28 [(15, .int .i64 (w64 ((w64 (p0 * p3)) - (w64 (p1 * p2))))), (26, .int .i64 (w64 ((w64 (p1 * p2)) - (w64 (p0 * p3)))))])) (h2 := [.dead, .dead]) (by kernel_rfl) ?_
  refine TI.op (q := { val := .int .i64 o1 }) (q_convI (e := mx (w64 ((w64 (p0 * p3)) - (w64 (p1 * p2)))) (w64 ((w64 (p1 * p2)) - (w64 (p0 * p3))))) (y := o1) (by kernel_rfl) h2) [27] [] (a2 := (st 28 [(27, .int .i64 o1)])) (h2 := [.dead, .dead]) (by kernel_rfl) ?_
  refine TI.run 1 [4] [] (a2 := (st 28 [(4, .int .i64 o1)])) (h2 := [.dead, .dead]) (by kernel_rfl) ?_
  refine TI.done (by kernel_rfl) ?_
  refine NX.sq ?_
  refine TS.ret' (by kernel_rfl) ?_
  have hF := Option.some.inj hF
  subst hF
  exact ⟨.inr rfl, rfl, .int .i64 o1, by kernel_rfl, WkV.flat0 (by kernel_rfl) (Nat.le_of_ble_eq_true rfl)⟩
theorem C60 (p0 : Int) (p1 : Int) (p2 : Int) (p3 : Int) (r : Int) (hF : F60 p0 p1 p2 p3 = some r) : PureSim Try.prog 60 [.agg ⟨[.int .i64 p0, .int .i64 p1]⟩, .agg ⟨[.int .i64 p2, .int .i64 p3]⟩] [] (V60 0 r) (N60 0 r) :=
  PureSim.of_Fin Try.func60 (c := c60) (by kernel_rfl) (by kernel_rfl) 0 rfl [0, 1] [] (by kernel_rfl) (B60 p0 p1 p2 p3 r hF)

-- agonic/agonicref06.Check
noncomputable def c21 : Code := Try.f21.code
def F21 (p0 : Int) (p1 : Int) (p2 : Int) (p3 : Int) : Option Int :=
  F55 p0 p1 1000 >>= fun r1 =>
  (
    if r1 then
      F55 p2 p3 1000 >>= fun r3 =>
      if r3 then
        some (false)
      else
        some (true)
    else
      some (true)
  : Option Bool) >>= fun m5 =>
  if m5 then
    some 1
  else
    F60 p0 p1 p2 p3 >>= fun r6 =>
    if r6 == 0 then
      some 15
    else
      some 0
def V21 (b : Nat) (r : Int) : Value := .int .i64 r
def N21 (b : Nat) (r : Int) : List Blk := []
theorem B21 (p0 : Int) (p1 : Int) (p2 : Int) (p3 : Int) (r : Int) (hF : F21 p0 p1 p2 p3 = some r) : TS Try.prog 0 0 c21 (st 19 [(0, .agg ⟨[.int .i64 p0, .int .i64 p1, .int .i64 p2, .int .i64 p3]⟩)]) [] (NX Try.prog 0 0 [] (FinP Try.prog Try.f21 0 (V21 0 r) (N21 0 r))) := by
  unfold F21 at hF
  refine TS.seq' (x := c21.s1) (y := c21.s2) (by kernel_rfl) ?_
  refine TS.region' (id := 0) (b := false) (ops := c21.s1.rops) (by kernel_rfl) rfl ?_
  refine TI.run 2 [1] [0] (a2 := (st 19 [(1, .pointer (some ⟨0, 0, none⟩))])) (h2 := [.cells 30 [.int .i64 p0, .int .i64 p1, .int .i64 p2, .int .i64 p3]]) (by kernel_rfl) ?_
  refine TI.done (by kernel_rfl) ?_
  refine NX.sq ?_
  refine TS.seq' (x := c21.s2.s1) (y := c21.s2.s2) (by kernel_rfl) ?_
  refine TS.seq' (x := c21.s2.s1.s1) (y := c21.s2.s1.s2) (by kernel_rfl) ?_
  have hX := of_do hF
  clear hF
  obtain ⟨r1, h2, hF⟩ := hX
  have hX := of_do hF
  clear hF
  obtain ⟨m5, hm9, hF⟩ := hX
  have hK : NX Try.prog 0 0 [.sq c21.s2.s1.s2, .sq c21.s2.s2] (FinP Try.prog Try.f21 0 (V21 0 r) (N21 0 r)) .normal (st 19 [(1, .pointer (some ⟨0, 0, none⟩)), (12, .bool m5)]) [.cells 30 [.int .i64 p0, .int .i64 p1, .int .i64 p2, .int .i64 p3]] := by
    refine NX.sq ?_
    cases m5 with
    | true =>
      replace hF := of_pos hF rfl
      refine TS.condT' (o := (.tmp 12)) (x := c21.s2.s1.s2.th) (y := c21.s2.s1.s2.el) (by kernel_rfl) (by kernel_rfl) ?_
      refine TS.seq' (x := c21.s2.s1.s2.th.s1) (y := c21.s2.s1.s2.th.s2) (by kernel_rfl) ?_
      refine TS.region' (id := 2) (b := false) (ops := c21.s2.s1.s2.th.s1.rops) (by kernel_rfl) rfl ?_
      refine TI.run 1 [2] [] (a2 := (st 19 [(2, .int .i64 1)])) (h2 := [.dead]) (by kernel_rfl) ?_
      refine TI.done (by kernel_rfl) ?_
      refine NX.sq ?_
      refine TS.ret' (by kernel_rfl) ?_
      refine NX.sqR ?_
      have hF := Option.some.inj hF
      subst hF
      exact ⟨.inr rfl, rfl, .int .i64 1, by kernel_rfl, WkV.flat0 (by kernel_rfl) (Nat.le_of_ble_eq_true rfl)⟩
    | false =>
      replace hF := of_neg hF rfl
      refine TS.condF' (o := (.tmp 12)) (x := c21.s2.s1.s2.th) (y := c21.s2.s1.s2.el) (by kernel_rfl) (by kernel_rfl) ?_
      refine TS.skip' (by kernel_rfl) ?_
      refine NX.sq ?_
      refine TS.seq' (x := c21.s2.s2.s1) (y := c21.s2.s2.s2) (by kernel_rfl) ?_
      refine TS.seq' (x := c21.s2.s2.s1.s1) (y := c21.s2.s2.s1.s2) (by kernel_rfl) ?_
      have hX := of_do hF
      clear hF
      obtain ⟨r6, h7, hF⟩ := hX
      refine TS.region' (id := 3) (b := false) (ops := c21.s2.s2.s1.s1.rops) (by kernel_rfl) rfl ?_
      refine TI.run 4 [14, 16] [] (a2 := (st 19 [(14, .agg ⟨[.int .i64 p0, .int .i64 p1]⟩), (16, .agg ⟨[.int .i64 p2, .int .i64 p3]⟩)])) (h2 := [.dead]) (by kernel_rfl) ?_
      refine TI.callM (g := 60) (args := [.agg ⟨[.int .i64 p0, .int .i64 p1]⟩, .agg ⟨[.int .i64 p2, .int .i64 p3]⟩]) (v := .int .i64 r6) (new := []) (by kernel_rfl) (PureSim.any (C60 p0 p1 p2 p3 r6 h7) (flatL (by kernel_rfl)) (by kernel_rfl) [.dead]) [17] [] (a2 := (st 19 [(17, .int .i64 r6)])) (h2 := [.dead]) (by kernel_rfl) ?_
      refine TI.run 1 [18] [] (a2 := (st 19 [(18, .bool (r6 == 0))])) (h2 := [.dead]) (by kernel_rfl) ?_
      refine TI.done (by kernel_rfl) ?_
      refine NX.sq ?_
      refine TS.cond' (o := (.tmp 18)) (x := c21.s2.s2.s1.s2.th) (y := c21.s2.s2.s1.s2.el) (b := r6 == 0) (by kernel_rfl) (by kernel_rfl) (fun hc8 => ?_) (fun hc8 => ?_)
      · replace hF := of_pos hF hc8
        refine TS.seq' (x := c21.s2.s2.s1.s2.th.s1) (y := c21.s2.s2.s1.s2.th.s2) (by kernel_rfl) ?_
        refine TS.region' (id := 4) (b := false) (ops := c21.s2.s2.s1.s2.th.s1.rops) (by kernel_rfl) rfl ?_
        refine TI.run 1 [2] [] (a2 := (st 19 [(2, .int .i64 15)])) (h2 := [.dead]) (by kernel_rfl) ?_
        refine TI.done (by kernel_rfl) ?_
        refine NX.sq ?_
        refine TS.ret' (by kernel_rfl) ?_
        refine NX.sqR ?_
        have hF := Option.some.inj hF
        subst hF
        exact ⟨.inr rfl, rfl, .int .i64 15, by kernel_rfl, WkV.flat0 (by kernel_rfl) (Nat.le_of_ble_eq_true rfl)⟩
      · replace hF := of_neg hF hc8
        refine TS.skip' (by kernel_rfl) ?_
        refine NX.sq ?_
        refine TS.seq' (x := c21.s2.s2.s2.s1) (y := c21.s2.s2.s2.s2) (by kernel_rfl) ?_
        refine TS.region' (id := 5) (b := false) (ops := c21.s2.s2.s2.s1.rops) (by kernel_rfl) rfl ?_
        refine TI.run 1 [2] [] (a2 := (st 19 [(2, .int .i64 0)])) (h2 := [.dead]) (by kernel_rfl) ?_
        refine TI.done (by kernel_rfl) ?_
        refine NX.sq ?_
        refine TS.ret' (by kernel_rfl) ?_
        have hF := Option.some.inj hF
        subst hF
        exact ⟨.inr rfl, rfl, .int .i64 0, by kernel_rfl, WkV.flat0 (by kernel_rfl) (Nat.le_of_ble_eq_true rfl)⟩
  cases r1 with
  | true =>
    replace hm9 := of_pos hm9 rfl
    have hX := of_do hm9
    clear hm9
    obtain ⟨r3, h4, hm9⟩ := hX
    cases r3 with
    | true =>
      replace hm9 := of_pos hm9 rfl
      have hm9 := Option.some.inj hm9
      subst hm9
      refine TS.region' (id := 1) (b := false) (ops := c21.s2.s1.s1.rops) (by kernel_rfl) rfl ?_
      refine TI.run 2 [1, 4] [0] (a2 := (st 19 [(1, .pointer (some ⟨0, 0, none⟩)), (4, .agg ⟨[.int .i64 p0, .int .i64 p1]⟩)])) (h2 := [.cells 30 [.int .i64 p0, .int .i64 p1, .int .i64 p2, .int .i64 p3]]) (by kernel_rfl) ?_
      refine TI.callM (g := 55) (args := [.agg ⟨[.int .i64 p0, .int .i64 p1]⟩, .int .i64 1000]) (v := .bool true) (new := []) (by kernel_rfl) (PureSim.any (C55 p0 p1 1000 true h2) (flatL (by kernel_rfl)) (by kernel_rfl) [.cells 30 [.int .i64 p0, .int .i64 p1, .int .i64 p2, .int .i64 p3]]) [1, 5] [0] (a2 := (st 19 [(1, .pointer (some ⟨0, 0, none⟩)), (5, .bool true)])) (h2 := [.cells 30 [.int .i64 p0, .int .i64 p1, .int .i64 p2, .int .i64 p3]]) (by kernel_rfl) ?_
      refine TI.run 4 [1, 7, 9] [0] (a2 := (st 19 [(1, .pointer (some ⟨0, 0, none⟩)), (7, .bool false), (9, .agg ⟨[.int .i64 p2, .int .i64 p3]⟩)])) (h2 := [.cells 30 [.int .i64 p0, .int .i64 p1, .int .i64 p2, .int .i64 p3]]) (by kernel_rfl) ?_
      refine TI.callM (g := 55) (args := [.agg ⟨[.int .i64 p2, .int .i64 p3]⟩, .int .i64 1000]) (v := .bool true) (new := []) (by kernel_rfl) (PureSim.any (C55 p2 p3 1000 true h4) (flatL (by kernel_rfl)) (by kernel_rfl) [.cells 30 [.int .i64 p0, .int .i64 p1, .int .i64 p2, .int .i64 p3]]) [1, 7, 10] [0] (a2 := (st 19 [(1, .pointer (some ⟨0, 0, none⟩)), (7, .bool false), (10, .bool true)])) (h2 := [.cells 30 [.int .i64 p0, .int .i64 p1, .int .i64 p2, .int .i64 p3]]) (by kernel_rfl) ?_
      refine TI.run 2 [1, 12] [0] (a2 := (st 19 [(1, .pointer (some ⟨0, 0, none⟩)), (12, .bool false)])) (h2 := [.cells 30 [.int .i64 p0, .int .i64 p1, .int .i64 p2, .int .i64 p3]]) (by kernel_rfl) ?_
      refine TI.done (by kernel_rfl) ?_
      exact hK
    | false =>
      replace hm9 := of_neg hm9 rfl
      have hm9 := Option.some.inj hm9
      subst hm9
      refine TS.region' (id := 1) (b := false) (ops := c21.s2.s1.s1.rops) (by kernel_rfl) rfl ?_
      refine TI.run 2 [1, 4] [0] (a2 := (st 19 [(1, .pointer (some ⟨0, 0, none⟩)), (4, .agg ⟨[.int .i64 p0, .int .i64 p1]⟩)])) (h2 := [.cells 30 [.int .i64 p0, .int .i64 p1, .int .i64 p2, .int .i64 p3]]) (by kernel_rfl) ?_
      refine TI.callM (g := 55) (args := [.agg ⟨[.int .i64 p0, .int .i64 p1]⟩, .int .i64 1000]) (v := .bool true) (new := []) (by kernel_rfl) (PureSim.any (C55 p0 p1 1000 true h2) (flatL (by kernel_rfl)) (by kernel_rfl) [.cells 30 [.int .i64 p0, .int .i64 p1, .int .i64 p2, .int .i64 p3]]) [1, 5] [0] (a2 := (st 19 [(1, .pointer (some ⟨0, 0, none⟩)), (5, .bool true)])) (h2 := [.cells 30 [.int .i64 p0, .int .i64 p1, .int .i64 p2, .int .i64 p3]]) (by kernel_rfl) ?_
      refine TI.run 4 [1, 7, 9] [0] (a2 := (st 19 [(1, .pointer (some ⟨0, 0, none⟩)), (7, .bool false), (9, .agg ⟨[.int .i64 p2, .int .i64 p3]⟩)])) (h2 := [.cells 30 [.int .i64 p0, .int .i64 p1, .int .i64 p2, .int .i64 p3]]) (by kernel_rfl) ?_
      refine TI.callM (g := 55) (args := [.agg ⟨[.int .i64 p2, .int .i64 p3]⟩, .int .i64 1000]) (v := .bool false) (new := []) (by kernel_rfl) (PureSim.any (C55 p2 p3 1000 false h4) (flatL (by kernel_rfl)) (by kernel_rfl) [.cells 30 [.int .i64 p0, .int .i64 p1, .int .i64 p2, .int .i64 p3]]) [1, 7, 10] [0] (a2 := (st 19 [(1, .pointer (some ⟨0, 0, none⟩)), (7, .bool false), (10, .bool false)])) (h2 := [.cells 30 [.int .i64 p0, .int .i64 p1, .int .i64 p2, .int .i64 p3]]) (by kernel_rfl) ?_
      refine TI.run 2 [1, 12] [0] (a2 := (st 19 [(1, .pointer (some ⟨0, 0, none⟩)), (12, .bool true)])) (h2 := [.cells 30 [.int .i64 p0, .int .i64 p1, .int .i64 p2, .int .i64 p3]]) (by kernel_rfl) ?_
      refine TI.done (by kernel_rfl) ?_
      exact hK
  | false =>
    replace hm9 := of_neg hm9 rfl
    have hm9 := Option.some.inj hm9
    subst hm9
    refine TS.region' (id := 1) (b := false) (ops := c21.s2.s1.s1.rops) (by kernel_rfl) rfl ?_
    refine TI.run 2 [1, 4] [0] (a2 := (st 19 [(1, .pointer (some ⟨0, 0, none⟩)), (4, .agg ⟨[.int .i64 p0, .int .i64 p1]⟩)])) (h2 := [.cells 30 [.int .i64 p0, .int .i64 p1, .int .i64 p2, .int .i64 p3]]) (by kernel_rfl) ?_
    refine TI.callM (g := 55) (args := [.agg ⟨[.int .i64 p0, .int .i64 p1]⟩, .int .i64 1000]) (v := .bool false) (new := []) (by kernel_rfl) (PureSim.any (C55 p0 p1 1000 false h2) (flatL (by kernel_rfl)) (by kernel_rfl) [.cells 30 [.int .i64 p0, .int .i64 p1, .int .i64 p2, .int .i64 p3]]) [1, 5] [0] (a2 := (st 19 [(1, .pointer (some ⟨0, 0, none⟩)), (5, .bool false)])) (h2 := [.cells 30 [.int .i64 p0, .int .i64 p1, .int .i64 p2, .int .i64 p3]]) (by kernel_rfl) ?_
    refine TI.run 7 [1, 12] [0] (a2 := (st 19 [(1, .pointer (some ⟨0, 0, none⟩)), (12, .bool true)])) (h2 := [.cells 30 [.int .i64 p0, .int .i64 p1, .int .i64 p2, .int .i64 p3]]) (by kernel_rfl) ?_
    refine TI.done (by kernel_rfl) ?_
    exact hK
theorem C21 (p0 : Int) (p1 : Int) (p2 : Int) (p3 : Int) (r : Int) (hF : F21 p0 p1 p2 p3 = some r) : PureSim Try.prog 21 [.agg ⟨[.int .i64 p0, .int .i64 p1, .int .i64 p2, .int .i64 p3]⟩] [] (V21 0 r) (N21 0 r) :=
  PureSim.of_Fin Try.func21 (c := c21) (by kernel_rfl) (by kernel_rfl) 0 rfl [0] [] (by kernel_rfl) (B21 p0 p1 p2 p3 r hF)

-- agonic/agonicref06.small
noncomputable def c56 : Code := Try.f56.code
def F56 (p0 : Int) (p1 : Int) : Option Bool :=
  F73 p0 (-100000000) 100000000 >>= fun r1 =>
  (
    if r1 then
      F73 p1 (-100000000) 100000000 >>= fun r3 =>
      some (r3)
    else
      some (false)
  : Option Bool) >>= fun m5 =>
  some m5
def V56 (b : Nat) (r : Bool) : Value := .bool r
def N56 (b : Nat) (r : Bool) : List Blk := []
theorem B56 (p0 : Int) (p1 : Int) (r : Bool) (hF : F56 p0 p1 = some r) : TS Try.prog 0 0 c56 (st 11 [(0, .agg ⟨[.int .i64 p0, .int .i64 p1]⟩)]) [] (NX Try.prog 0 0 [] (FinP Try.prog Try.f56 0 (V56 0 r) (N56 0 r))) := by
  unfold F56 at hF
  refine TS.seq' (x := c56.s1) (y := c56.s2) (by kernel_rfl) ?_
  refine TS.region' (id := 0) (b := false) (ops := c56.s1.rops) (by kernel_rfl) rfl ?_
  refine TI.run 2 [1] [0] (a2 := (st 11 [(1, .pointer (some ⟨0, 0, none⟩))])) (h2 := [.cells 41 [.int .i64 p0, .int .i64 p1]]) (by kernel_rfl) ?_
  refine TI.done (by kernel_rfl) ?_
  refine NX.sq ?_
  refine TS.seq' (x := c56.s2.s1) (y := c56.s2.s2) (by kernel_rfl) ?_
  have hX := of_do hF
  clear hF
  obtain ⟨r1, h2, hF⟩ := hX
  have hX := of_do hF
  clear hF
  obtain ⟨m5, hm6, hF⟩ := hX
  have hK : NX Try.prog 0 0 [.sq c56.s2.s2] (FinP Try.prog Try.f56 0 (V56 0 r) (N56 0 r)) .normal (st 11 [(2, .bool m5)]) [.dead] := by
    refine NX.sq ?_
    refine TS.ret' (by kernel_rfl) ?_
    have hF := Option.some.inj hF
    subst hF
    exact ⟨.inr rfl, rfl, .bool m5, by kernel_rfl, WkV.flat0 (by kernel_rfl) (Nat.le_of_ble_eq_true rfl)⟩
  cases r1 with
  | true =>
    replace hm6 := of_pos hm6 rfl
    have hX := of_do hm6
    clear hm6
    obtain ⟨r3, h4, hm6⟩ := hX
    have hm6 := Option.some.inj hm6
    subst hm6
    refine TS.region' (id := 1) (b := false) (ops := c56.s2.s1.rops) (by kernel_rfl) rfl ?_
    refine TI.run 2 [1, 4] [0] (a2 := (st 11 [(1, .pointer (some ⟨0, 0, none⟩)), (4, .int .i64 p0)])) (h2 := [.cells 41 [.int .i64 p0, .int .i64 p1]]) (by kernel_rfl) ?_
    refine TI.callM (g := 73) (args := [.int .i64 p0, .int .i64 (-100000000), .int .i64 100000000]) (v := .bool true) (new := []) (by kernel_rfl) (PureSim.any (C73 p0 (-100000000) 100000000 true h2) (flatL (by kernel_rfl)) (by kernel_rfl) [.cells 41 [.int .i64 p0, .int .i64 p1]]) [1, 5] [0] (a2 := (st 11 [(1, .pointer (some ⟨0, 0, none⟩)), (5, .bool true)])) (h2 := [.cells 41 [.int .i64 p0, .int .i64 p1]]) (by kernel_rfl) ?_
    refine TI.run 3 [6, 8] [] (a2 := (st 11 [(6, .bool true), (8, .int .i64 p1)])) (h2 := [.dead]) (by kernel_rfl) ?_
    refine TI.callM (g := 73) (args := [.int .i64 p1, .int .i64 (-100000000), .int .i64 100000000]) (v := .bool r3) (new := []) (by kernel_rfl) (PureSim.any (C73 p1 (-100000000) 100000000 r3 h4) (flatL (by kernel_rfl)) (by kernel_rfl) [.dead]) [6, 9] [] (a2 := (st 11 [(6, .bool true), (9, .bool r3)])) (h2 := [.dead]) (by kernel_rfl) ?_
    refine TI.run 2 [2] [] (a2 := (st 11 [(2, .bool r3)])) (h2 := [.dead]) (by kernel_rfl) ?_
    refine TI.done (by kernel_rfl) ?_
    exact hK
  | false =>
    replace hm6 := of_neg hm6 rfl
    have hm6 := Option.some.inj hm6
    subst hm6
    refine TS.region' (id := 1) (b := false) (ops := c56.s2.s1.rops) (by kernel_rfl) rfl ?_
    refine TI.run 2 [1, 4] [0] (a2 := (st 11 [(1, .pointer (some ⟨0, 0, none⟩)), (4, .int .i64 p0)])) (h2 := [.cells 41 [.int .i64 p0, .int .i64 p1]]) (by kernel_rfl) ?_
    refine TI.callM (g := 73) (args := [.int .i64 p0, .int .i64 (-100000000), .int .i64 100000000]) (v := .bool false) (new := []) (by kernel_rfl) (PureSim.any (C73 p0 (-100000000) 100000000 false h2) (flatL (by kernel_rfl)) (by kernel_rfl) [.cells 41 [.int .i64 p0, .int .i64 p1]]) [1, 5] [0] (a2 := (st 11 [(1, .pointer (some ⟨0, 0, none⟩)), (5, .bool false)])) (h2 := [.cells 41 [.int .i64 p0, .int .i64 p1]]) (by kernel_rfl) ?_
    refine TI.run 6 [2] [] (a2 := (st 11 [(2, .bool false)])) (h2 := [.dead]) (by kernel_rfl) ?_
    refine TI.done (by kernel_rfl) ?_
    exact hK
theorem C56 (p0 : Int) (p1 : Int) (r : Bool) (hF : F56 p0 p1 = some r) : PureSim Try.prog 56 [.agg ⟨[.int .i64 p0, .int .i64 p1]⟩] [] (V56 0 r) (N56 0 r) :=
  PureSim.of_Fin Try.func56 (c := c56) (by kernel_rfl) (by kernel_rfl) 0 rfl [0] [] (by kernel_rfl) (B56 p0 p1 r hF)

-- agonic/agonicref06.pull
noncomputable def c57 : Code := Try.f57.code
def F57 (p0 : Int) (p1 : Int) (p2 : Int) (p3 : Int) (p4 : Int) (p5 : Int) : Option (Int × Int) :=
  some (w64 ((w64 (p4 * p0)) + (w64 (p5 * p2))), w64 ((w64 (p4 * p1)) + (w64 (p5 * p3))))
def V57 (b : Nat) (r : (Int × Int)) : Value := .agg ⟨[.int .i64 r.1, .int .i64 r.2]⟩
def N57 (b : Nat) (r : (Int × Int)) : List Blk := []
theorem B57 (p0 : Int) (p1 : Int) (p2 : Int) (p3 : Int) (p4 : Int) (p5 : Int) (r : (Int × Int)) (hF : F57 p0 p1 p2 p3 p4 p5 = some r) : TS Try.prog 0 0 c57 (st 32 [(0, .agg ⟨[.int .i64 p0, .int .i64 p1, .int .i64 p2, .int .i64 p3]⟩), (1, .agg ⟨[.int .i64 p4, .int .i64 p5]⟩)]) [] (NX Try.prog 0 0 [] (FinP Try.prog Try.f57 0 (V57 0 r) (N57 0 r))) := by
  unfold F57 at hF
  refine TS.seq' (x := c57.s1) (y := c57.s2) (by kernel_rfl) ?_
  refine TS.region' (id := 0) (b := false) (ops := c57.s1.rops) (by kernel_rfl) rfl ?_
  refine TI.run 3 [2, 3, 4] [0, 1, 2] (a2 := (st 32 [(2, .pointer (some ⟨0, 0, none⟩)), (3, .pointer (some ⟨1, 0, none⟩)), (4, .pointer (some ⟨2, 0, none⟩))])) (h2 := [.cells 30 [.int .i64 p0, .int .i64 p1, .int .i64 p2, .int .i64 p3], .cells 41 [.int .i64 p4, .int .i64 p5], .cells 28 [.int .i64 0, .int .i64 0]]) (by kernel_rfl) ?_
  refine TI.done (by kernel_rfl) ?_
  refine NX.sq ?_
  refine TS.seq' (x := c57.s2.s1) (y := c57.s2.s2) (by kernel_rfl) ?_
  refine TS.region' (id := 1) (b := false) (ops := c57.s2.s1.rops) (by kernel_rfl) rfl ?_
  refine TI.run 28 [4] [2] (a2 := (st 32 [(4, .pointer (some ⟨2, 0, none⟩))])) (h2 := [.dead, .dead, .cells 28 [.int .i64 (w64 ((w64 (p4 * p0)) + (w64 (p5 * p2)))), .int .i64 (w64 ((w64 (p4 * p1)) + (w64 (p5 * p3))))]]) (by kernel_rfl) ?_
  refine TI.done (by kernel_rfl) ?_
  refine NX.sq ?_
  refine TS.ret' (by kernel_rfl) ?_
  have hF := Option.some.inj hF
  subst hF
  exact ⟨.inr rfl, rfl, .agg ⟨[.int .i64 (w64 ((w64 (p4 * p0)) + (w64 (p5 * p2)))), .int .i64 (w64 ((w64 (p4 * p1)) + (w64 (p5 * p3))))]⟩, by kernel_rfl, WkV.flat0 (by kernel_rfl) (Nat.le_of_ble_eq_true rfl)⟩
theorem C57 (p0 : Int) (p1 : Int) (p2 : Int) (p3 : Int) (p4 : Int) (p5 : Int) (r : (Int × Int)) (hF : F57 p0 p1 p2 p3 p4 p5 = some r) : PureSim Try.prog 57 [.agg ⟨[.int .i64 p0, .int .i64 p1, .int .i64 p2, .int .i64 p3]⟩, .agg ⟨[.int .i64 p4, .int .i64 p5]⟩] [] (V57 0 r) (N57 0 r) :=
  PureSim.of_Fin Try.func57 (c := c57) (by kernel_rfl) (by kernel_rfl) 0 rfl [0, 1] [] (by kernel_rfl) (B57 p0 p1 p2 p3 p4 p5 r hF)

-- agonic/agonicref06.Rest
noncomputable def c17 : Code := Try.f17.code
def F17 (p0 : Int) (p1 : Int) (p2 : Int) (p3 : Int) (p4 : Int) (p5 : Int) (p6 : Int) (p7 : Int) : Option ((Int × Int) × Int) :=
  F21 p0 p1 p2 p3 >>= fun r1 =>
  (
    if r1 == 0 then
      F55 p4 p5 10000 >>= fun r4 =>
      if r4 then
        F56 p6 p7 >>= fun r6 =>
        if r6 then
          some (false)
        else
          some (true)
      else
        some (true)
    else
      some (false)
  : Option Bool) >>= fun m8 =>
  (
    if m8 then
      some 1
    else
      some r1
  : Option Int) >>= fun m11 =>
  if m11 != 0 then
    some ((0, 0), m11)
  else
    F57 p0 p1 p2 p3 p6 p7 >>= fun r14 =>
    some ((w64 (p4 + r14.1), w64 (p5 + r14.2)), 0)
def V17 (b : Nat) (r : ((Int × Int) × Int)) : Value := .tuple ⟨[.agg ⟨[.int .i64 r.1.1, .int .i64 r.1.2]⟩, .int .i64 r.2]⟩
def N17 (b : Nat) (r : ((Int × Int) × Int)) : List Blk := []
theorem B17 (p0 : Int) (p1 : Int) (p2 : Int) (p3 : Int) (p4 : Int) (p5 : Int) (p6 : Int) (p7 : Int) (r : ((Int × Int) × Int)) (hF : F17 p0 p1 p2 p3 p4 p5 p6 p7 = some r) : TS Try.prog 0 0 c17 (st 42 [(0, .agg ⟨[.int .i64 p0, .int .i64 p1, .int .i64 p2, .int .i64 p3]⟩), (1, .agg ⟨[.int .i64 p4, .int .i64 p5]⟩), (2, .agg ⟨[.int .i64 p6, .int .i64 p7]⟩)]) [] (NX Try.prog 0 0 [] (FinP Try.prog Try.f17 0 (V17 0 r) (N17 0 r))) := by
  unfold F17 at hF
  refine TS.seq' (x := c17.s1) (y := c17.s2) (by kernel_rfl) ?_
  refine TS.region' (id := 0) (b := false) (ops := c17.s1.rops) (by kernel_rfl) rfl ?_
  refine TI.run 5 [3, 4, 5, 6] [0, 1, 2, 3] (a2 := (st 42 [(3, .pointer (some ⟨0, 0, none⟩)), (4, .pointer (some ⟨1, 0, none⟩)), (5, .pointer (some ⟨2, 0, none⟩)), (6, .pointer (some ⟨3, 0, none⟩))])) (h2 := [.cells 30 [.int .i64 p0, .int .i64 p1, .int .i64 p2, .int .i64 p3], .cells 28 [.int .i64 p4, .int .i64 p5], .cells 41 [.int .i64 p6, .int .i64 p7], .cells 28 [.int .i64 0, .int .i64 0]]) (by kernel_rfl) ?_
  refine TI.done (by kernel_rfl) ?_
  refine NX.sq ?_
  refine TS.seq' (x := c17.s2.s1) (y := c17.s2.s2) (by kernel_rfl) ?_
  have hX := of_do hF
  clear hF
  obtain ⟨r1, h2, hF⟩ := hX
  refine TS.region' (id := 1) (b := false) (ops := c17.s2.s1.rops) (by kernel_rfl) rfl ?_
  refine TI.run 1 [3, 4, 5, 6, 10] [0, 1, 2, 3] (a2 := (st 42 [(3, .pointer (some ⟨0, 0, none⟩)), (4, .pointer (some ⟨1, 0, none⟩)), (5, .pointer (some ⟨2, 0, none⟩)), (6, .pointer (some ⟨3, 0, none⟩)), (10, .agg ⟨[.int .i64 p0, .int .i64 p1, .int .i64 p2, .int .i64 p3]⟩)])) (h2 := [.cells 30 [.int .i64 p0, .int .i64 p1, .int .i64 p2, .int .i64 p3], .cells 28 [.int .i64 p4, .int .i64 p5], .cells 41 [.int .i64 p6, .int .i64 p7], .cells 28 [.int .i64 0, .int .i64 0]]) (by kernel_rfl) ?_
  refine TI.callM (g := 21) (args := [.agg ⟨[.int .i64 p0, .int .i64 p1, .int .i64 p2, .int .i64 p3]⟩]) (v := .int .i64 r1) (new := []) (by kernel_rfl) (PureSim.any (C21 p0 p1 p2 p3 r1 h2) (flatL (by kernel_rfl)) (by kernel_rfl) [.cells 30 [.int .i64 p0, .int .i64 p1, .int .i64 p2, .int .i64 p3], .cells 28 [.int .i64 p4, .int .i64 p5], .cells 41 [.int .i64 p6, .int .i64 p7], .cells 28 [.int .i64 0, .int .i64 0]]) [3, 4, 5, 6, 11] [0, 1, 2, 3] (a2 := (st 42 [(3, .pointer (some ⟨0, 0, none⟩)), (4, .pointer (some ⟨1, 0, none⟩)), (5, .pointer (some ⟨2, 0, none⟩)), (6, .pointer (some ⟨3, 0, none⟩)), (11, .int .i64 r1)])) (h2 := [.cells 30 [.int .i64 p0, .int .i64 p1, .int .i64 p2, .int .i64 p3], .cells 28 [.int .i64 p4, .int .i64 p5], .cells 41 [.int .i64 p6, .int .i64 p7], .cells 28 [.int .i64 0, .int .i64 0]]) (by kernel_rfl) ?_
  refine TI.run 1 [3, 4, 5, 6, 8] [0, 1, 2, 3] (a2 := (st 42 [(3, .pointer (some ⟨0, 0, none⟩)), (4, .pointer (some ⟨1, 0, none⟩)), (5, .pointer (some ⟨2, 0, none⟩)), (6, .pointer (some ⟨3, 0, none⟩)), (8, .int .i64 r1)])) (h2 := [.cells 30 [.int .i64 p0, .int .i64 p1, .int .i64 p2, .int .i64 p3], .cells 28 [.int .i64 p4, .int .i64 p5], .cells 41 [.int .i64 p6, .int .i64 p7], .cells 28 [.int .i64 0, .int .i64 0]]) (by kernel_rfl) ?_
  refine TI.done (by kernel_rfl) ?_
  refine NX.sq ?_
  refine TS.seq' (x := c17.s2.s2.s1) (y := c17.s2.s2.s2) (by kernel_rfl) ?_
  refine TS.seq' (x := c17.s2.s2.s1.s1) (y := c17.s2.s2.s1.s2) (by kernel_rfl) ?_
  have hX := of_do hF
  clear hF
  obtain ⟨m8, hm16, hF⟩ := hX
  have hK : NX Try.prog 0 0 [.sq c17.s2.s2.s1.s2, .sq c17.s2.s2.s2] (FinP Try.prog Try.f17 0 (V17 0 r) (N17 0 r)) .normal (st 42 [(3, .pointer (some ⟨0, 0, none⟩)), (4, .pointer (some ⟨1, 0, none⟩)), (5, .pointer (some ⟨2, 0, none⟩)), (6, .pointer (some ⟨3, 0, none⟩)), (8, .int .i64 r1), (23, .bool m8)]) [.cells 30 [.int .i64 p0, .int .i64 p1, .int .i64 p2, .int .i64 p3], .cells 28 [.int .i64 p4, .int .i64 p5], .cells 41 [.int .i64 p6, .int .i64 p7], .cells 28 [.int .i64 0, .int .i64 0]] := by
    refine NX.sq ?_
    have hX := of_do hF
    clear hF
    obtain ⟨m11, hm12, hF⟩ := hX
    have hK : NX Try.prog 0 0 [.sq c17.s2.s2.s2] (FinP Try.prog Try.f17 0 (V17 0 r) (N17 0 r)) .normal (st 42 [(3, .pointer (some ⟨0, 0, none⟩)), (4, .pointer (some ⟨1, 0, none⟩)), (5, .pointer (some ⟨2, 0, none⟩)), (6, .pointer (some ⟨3, 0, none⟩)), (8, .int .i64 m11)]) [.cells 30 [.int .i64 p0, .int .i64 p1, .int .i64 p2, .int .i64 p3], .cells 28 [.int .i64 p4, .int .i64 p5], .cells 41 [.int .i64 p6, .int .i64 p7], .cells 28 [.int .i64 0, .int .i64 0]] := by
      refine NX.sq ?_
      refine TS.seq' (x := c17.s2.s2.s2.s1) (y := c17.s2.s2.s2.s2) (by kernel_rfl) ?_
      refine TS.seq' (x := c17.s2.s2.s2.s1.s1) (y := c17.s2.s2.s2.s1.s2) (by kernel_rfl) ?_
      refine TS.region' (id := 4) (b := false) (ops := c17.s2.s2.s2.s1.s1.rops) (by kernel_rfl) rfl ?_
      refine TI.run 2 [3, 4, 5, 6, 8, 25] [0, 1, 2, 3] (a2 := (st 42 [(3, .pointer (some ⟨0, 0, none⟩)), (4, .pointer (some ⟨1, 0, none⟩)), (5, .pointer (some ⟨2, 0, none⟩)), (6, .pointer (some ⟨3, 0, none⟩)), (8, .int .i64 m11), (25, .bool (m11 != 0))])) (h2 := [.cells 30 [.int .i64 p0, .int .i64 p1, .int .i64 p2, .int .i64 p3], .cells 28 [.int .i64 p4, .int .i64 p5], .cells 41 [.int .i64 p6, .int .i64 p7], .cells 28 [.int .i64 0, .int .i64 0]]) (by kernel_rfl) ?_
      refine TI.done (by kernel_rfl) ?_
      refine NX.sq ?_
      refine TS.cond' (o := (.tmp 25)) (x := c17.s2.s2.s2.s1.s2.th) (y := c17.s2.s2.s2.s1.s2.el) (b := m11 != 0) (by kernel_rfl) (by kernel_rfl) (fun hc13 => ?_) (fun hc13 => ?_)
      · replace hF := of_pos hF hc13
        refine TS.seq' (x := c17.s2.s2.s2.s1.s2.th.s1) (y := c17.s2.s2.s2.s1.s2.th.s2) (by kernel_rfl) ?_
        refine TS.region' (id := 5) (b := false) (ops := c17.s2.s2.s2.s1.s2.th.s1.rops) (by kernel_rfl) rfl ?_
        refine TI.run 4 [6, 7] [3] (a2 := (st 42 [(6, .pointer (some ⟨3, 0, none⟩)), (7, .int .i64 m11)])) (h2 := [.dead, .dead, .dead, .cells 28 [.int .i64 0, .int .i64 0]]) (by kernel_rfl) ?_
        refine TI.done (by kernel_rfl) ?_
        refine NX.sq ?_
        refine TS.ret' (by kernel_rfl) ?_
        refine NX.sqR ?_
        have hF := Option.some.inj hF
        subst hF
        exact ⟨.inr rfl, rfl, .tuple ⟨[.agg ⟨[.int .i64 0, .int .i64 0]⟩, .int .i64 m11]⟩, by kernel_rfl, WkV.flat0 (by kernel_rfl) (Nat.le_of_ble_eq_true rfl)⟩
      · replace hF := of_neg hF hc13
        refine TS.skip' (by kernel_rfl) ?_
        refine NX.sq ?_
        refine TS.seq' (x := c17.s2.s2.s2.s2.s1) (y := c17.s2.s2.s2.s2.s2) (by kernel_rfl) ?_
        have hX := of_do hF
        clear hF
        obtain ⟨r14, h15, hF⟩ := hX
        refine TS.region' (id := 6) (b := false) (ops := c17.s2.s2.s2.s2.s1.rops) (by kernel_rfl) rfl ?_
        refine TI.run 2 [4, 6, 28, 29] [1, 3] (a2 := (st 42 [(4, .pointer (some ⟨1, 0, none⟩)), (6, .pointer (some ⟨3, 0, none⟩)), (28, .agg ⟨[.int .i64 p0, .int .i64 p1, .int .i64 p2, .int .i64 p3]⟩), (29, .agg ⟨[.int .i64 p6, .int .i64 p7]⟩)])) (h2 := [.dead, .cells 28 [.int .i64 p4, .int .i64 p5], .dead, .cells 28 [.int .i64 0, .int .i64 0]]) (by kernel_rfl) ?_
        refine TI.callM (g := 57) (args := [.agg ⟨[.int .i64 p0, .int .i64 p1, .int .i64 p2, .int .i64 p3]⟩, .agg ⟨[.int .i64 p6, .int .i64 p7]⟩]) (v := .agg ⟨[.int .i64 r14.1, .int .i64 r14.2]⟩) (new := []) (by kernel_rfl) (PureSim.any (C57 p0 p1 p2 p3 p6 p7 r14 h15) (flatL (by kernel_rfl)) (by kernel_rfl) [.dead, .cells 28 [.int .i64 p4, .int .i64 p5], .dead, .cells 28 [.int .i64 0, .int .i64 0]]) [4, 6, 30] [1, 3] (a2 := (st 42 [(4, .pointer (some ⟨1, 0, none⟩)), (6, .pointer (some ⟨3, 0, none⟩)), (30, .agg ⟨[.int .i64 r14.1, .int .i64 r14.2]⟩)])) (h2 := [.dead, .cells 28 [.int .i64 p4, .int .i64 p5], .dead, .cells 28 [.int .i64 0, .int .i64 0]]) (by kernel_rfl) ?_
        refine TI.run 2 [4, 6, 9] [1, 3, 4] (a2 := (st 42 [(4, .pointer (some ⟨1, 0, none⟩)), (6, .pointer (some ⟨3, 0, none⟩)), (9, .pointer (some ⟨4, 0, none⟩))])) (h2 := [.dead, .cells 28 [.int .i64 p4, .int .i64 p5], .dead, .cells 28 [.int .i64 0, .int .i64 0], .cells 28 [.int .i64 r14.1, .int .i64 r14.2]]) (by kernel_rfl) ?_
        refine TI.done (by kernel_rfl) ?_
        refine NX.sq ?_
        refine TS.seq' (x := c17.s2.s2.s2.s2.s2.s1) (y := c17.s2.s2.s2.s2.s2.s2) (by kernel_rfl) ?_
        refine TS.region' (id := 7) (b := false) (ops := c17.s2.s2.s2.s2.s2.s1.rops) (by kernel_rfl) rfl ?_
        refine TI.run 13 [6, 7] [3] (a2 := (st 42 [(6, .pointer (some ⟨3, 0, none⟩)), (7, .int .i64 0)])) (h2 := [.dead, .dead, .dead, .cells 28 [.int .i64 (w64 (p4 + r14.1)), .int .i64 (w64 (p5 + r14.2))], .dead]) (by kernel_rfl) ?_
        refine TI.done (by kernel_rfl) ?_
        refine NX.sq ?_
        refine TS.ret' (by kernel_rfl) ?_
        have hF := Option.some.inj hF
        subst hF
        exact ⟨.inr rfl, rfl, .tuple ⟨[.agg ⟨[.int .i64 (w64 (p4 + r14.1)), .int .i64 (w64 (p5 + r14.2))]⟩, .int .i64 0]⟩, by kernel_rfl, WkV.flat0 (by kernel_rfl) (Nat.le_of_ble_eq_true rfl)⟩
    clear hF
    have hF := hm12
    clear hm12
    refine TS.start ?_
    cases m8 with
    | true =>
      replace hF := of_pos hF rfl
      refine TS.condT' (o := (.tmp 23)) (x := c17.s2.s2.s1.s2.th) (y := c17.s2.s2.s1.s2.el) (by kernel_rfl) (by kernel_rfl) ?_
      refine TS.region' (id := 3) (b := false) (ops := c17.s2.s2.s1.s2.th.rops) (by kernel_rfl) rfl ?_
      refine TI.run 1 [3, 4, 5, 6, 8] [0, 1, 2, 3] (a2 := (st 42 [(3, .pointer (some ⟨0, 0, none⟩)), (4, .pointer (some ⟨1, 0, none⟩)), (5, .pointer (some ⟨2, 0, none⟩)), (6, .pointer (some ⟨3, 0, none⟩)), (8, .int .i64 1)])) (h2 := [.cells 30 [.int .i64 p0, .int .i64 p1, .int .i64 p2, .int .i64 p3], .cells 28 [.int .i64 p4, .int .i64 p5], .cells 41 [.int .i64 p6, .int .i64 p7], .cells 28 [.int .i64 0, .int .i64 0]]) (by kernel_rfl) ?_
      refine TI.done (by kernel_rfl) ?_
      have hF := Option.some.inj hF
      subst hF
      exact TS.weak (Wk.anew (base := 0) (L := 0) (f := [0, 1, 2, 3]) (by decide) (by decide) (Nat.le_of_ble_eq_true rfl) rfl (.cons (At.blk (by kernel_rfl) (RnB.lit (.cons (.flat (by kernel_rfl)) (.cons (.flat (by kernel_rfl)) (.cons (.flat (by kernel_rfl)) (.cons (.flat (by kernel_rfl)) .nil)))))) (.cons (At.blk (by kernel_rfl) (RnB.lit (.cons (.flat (by kernel_rfl)) (.cons (.flat (by kernel_rfl)) .nil)))) (.cons (At.blk (by kernel_rfl) (RnB.lit (.cons (.flat (by kernel_rfl)) (.cons (.flat (by kernel_rfl)) .nil)))) (.cons (At.blk (by kernel_rfl) (RnB.lit (.cons (.flat (by kernel_rfl)) (.cons (.flat (by kernel_rfl)) .nil)))) (.nil _))))) (LRn.stx [3, 4, 5, 6, 8] [.pointer (some ⟨0, 0, none⟩), .pointer (some ⟨1, 0, none⟩), .pointer (some ⟨2, 0, none⟩), .pointer (some ⟨3, 0, none⟩), .int .i64 1] [.pointer (some ⟨0, 0, none⟩), .pointer (some ⟨1, 0, none⟩), .pointer (some ⟨2, 0, none⟩), .pointer (some ⟨3, 0, none⟩), .int .i64 1] (.cons (Rn.ptr _ _ _ (Nat.le_of_ble_eq_true rfl) rfl) (.cons (Rn.ptr _ _ _ (Nat.le_of_ble_eq_true rfl) rfl) (.cons (Rn.ptr _ _ _ (Nat.le_of_ble_eq_true rfl) rfl) (.cons (Rn.ptr _ _ _ (Nat.le_of_ble_eq_true rfl) rfl) (.cons (.flat (by kernel_rfl)) .nil))))) (by kernel_rfl) (by kernel_rfl) rfl) rfl rfl) hK
    | false =>
      replace hF := of_neg hF rfl
      refine TS.condF' (o := (.tmp 23)) (x := c17.s2.s2.s1.s2.th) (y := c17.s2.s2.s1.s2.el) (by kernel_rfl) (by kernel_rfl) ?_
      refine TS.skip' (by kernel_rfl) ?_
      have hF := Option.some.inj hF
      subst hF
      exact TS.weak (Wk.anew (base := 0) (L := 0) (f := [0, 1, 2, 3]) (by decide) (by decide) (Nat.le_of_ble_eq_true rfl) rfl (.cons (At.blk (by kernel_rfl) (RnB.lit (.cons (.flat (by kernel_rfl)) (.cons (.flat (by kernel_rfl)) (.cons (.flat (by kernel_rfl)) (.cons (.flat (by kernel_rfl)) .nil)))))) (.cons (At.blk (by kernel_rfl) (RnB.lit (.cons (.flat (by kernel_rfl)) (.cons (.flat (by kernel_rfl)) .nil)))) (.cons (At.blk (by kernel_rfl) (RnB.lit (.cons (.flat (by kernel_rfl)) (.cons (.flat (by kernel_rfl)) .nil)))) (.cons (At.blk (by kernel_rfl) (RnB.lit (.cons (.flat (by kernel_rfl)) (.cons (.flat (by kernel_rfl)) .nil)))) (.nil _))))) (LRn.stx [3, 4, 5, 6, 8] [.pointer (some ⟨0, 0, none⟩), .pointer (some ⟨1, 0, none⟩), .pointer (some ⟨2, 0, none⟩), .pointer (some ⟨3, 0, none⟩), .int .i64 r1] [.pointer (some ⟨0, 0, none⟩), .pointer (some ⟨1, 0, none⟩), .pointer (some ⟨2, 0, none⟩), .pointer (some ⟨3, 0, none⟩), .int .i64 r1] (.cons (Rn.ptr _ _ _ (Nat.le_of_ble_eq_true rfl) rfl) (.cons (Rn.ptr _ _ _ (Nat.le_of_ble_eq_true rfl) rfl) (.cons (Rn.ptr _ _ _ (Nat.le_of_ble_eq_true rfl) rfl) (.cons (Rn.ptr _ _ _ (Nat.le_of_ble_eq_true rfl) rfl) (.cons (.flat (by kernel_rfl)) .nil))))) (by kernel_rfl) (by kernel_rfl) rfl) rfl rfl) hK
  rcases Bool.eq_false_or_eq_true (r1 == 0) with hc3 | hc3
  · replace hm16 := of_pos hm16 hc3
    have hX := of_do hm16
    clear hm16
    obtain ⟨r4, h5, hm16⟩ := hX
    cases r4 with
    | true =>
      replace hm16 := of_pos hm16 rfl
      have hX := of_do hm16
      clear hm16
      obtain ⟨r6, h7, hm16⟩ := hX
      cases r6 with
      | true =>
        replace hm16 := of_pos hm16 rfl
        have hm16 := Option.some.inj hm16
        subst hm16
        refine TS.region' (id := 2) (b := false) (ops := c17.s2.s2.s1.s1.rops) (by kernel_rfl) rfl ?_
        refine TI.run 1 [3, 4, 5, 6, 8, 12] [0, 1, 2, 3] (a2 := (st 42 [(3, .pointer (some ⟨0, 0, none⟩)), (4, .pointer (some ⟨1, 0, none⟩)), (5, .pointer (some ⟨2, 0, none⟩)), (6, .pointer (some ⟨3, 0, none⟩)), (8, .int .i64 r1), (12, .int .i64 r1)])) (h2 := [.cells 30 [.int .i64 p0, .int .i64 p1, .int .i64 p2, .int .i64 p3], .cells 28 [.int .i64 p4, .int .i64 p5], .cells 41 [.int .i64 p6, .int .i64 p7], .cells 28 [.int .i64 0, .int .i64 0]]) (by kernel_rfl) ?_
        refine TI.op (q := { val := .bool true }) (q_conv (e := r1 == 0) (b := true) (by kernel_rfl) hc3) [3, 4, 5, 6, 8, 13] [0, 1, 2, 3] (a2 := (st 42 [(3, .pointer (some ⟨0, 0, none⟩)), (4, .pointer (some ⟨1, 0, none⟩)), (5, .pointer (some ⟨2, 0, none⟩)), (6, .pointer (some ⟨3, 0, none⟩)), (8, .int .i64 r1), (13, .bool true)])) (h2 := [.cells 30 [.int .i64 p0, .int .i64 p1, .int .i64 p2, .int .i64 p3], .cells 28 [.int .i64 p4, .int .i64 p5], .cells 41 [.int .i64 p6, .int .i64 p7], .cells 28 [.int .i64 0, .int .i64 0]]) (by kernel_rfl) ?_
        refine TI.run 2 [3, 4, 5, 6, 8, 14, 15] [0, 1, 2, 3] (a2 := (st 42 [(3, .pointer (some ⟨0, 0, none⟩)), (4, .pointer (some ⟨1, 0, none⟩)), (5, .pointer (some ⟨2, 0, none⟩)), (6, .pointer (some ⟨3, 0, none⟩)), (8, .int .i64 r1), (14, .bool true), (15, .agg ⟨[.int .i64 p4, .int .i64 p5]⟩)])) (h2 := [.cells 30 [.int .i64 p0, .int .i64 p1, .int .i64 p2, .int .i64 p3], .cells 28 [.int .i64 p4, .int .i64 p5], .cells 41 [.int .i64 p6, .int .i64 p7], .cells 28 [.int .i64 0, .int .i64 0]]) (by kernel_rfl) ?_
        refine TI.callM (g := 55) (args := [.agg ⟨[.int .i64 p4, .int .i64 p5]⟩, .int .i64 10000]) (v := .bool true) (new := []) (by kernel_rfl) (PureSim.any (C55 p4 p5 10000 true h5) (flatL (by kernel_rfl)) (by kernel_rfl) [.cells 30 [.int .i64 p0, .int .i64 p1, .int .i64 p2, .int .i64 p3], .cells 28 [.int .i64 p4, .int .i64 p5], .cells 41 [.int .i64 p6, .int .i64 p7], .cells 28 [.int .i64 0, .int .i64 0]]) [3, 4, 5, 6, 8, 14, 16] [0, 1, 2, 3] (a2 := (st 42 [(3, .pointer (some ⟨0, 0, none⟩)), (4, .pointer (some ⟨1, 0, none⟩)), (5, .pointer (some ⟨2, 0, none⟩)), (6, .pointer (some ⟨3, 0, none⟩)), (8, .int .i64 r1), (14, .bool true), (16, .bool true)])) (h2 := [.cells 30 [.int .i64 p0, .int .i64 p1, .int .i64 p2, .int .i64 p3], .cells 28 [.int .i64 p4, .int .i64 p5], .cells 41 [.int .i64 p6, .int .i64 p7], .cells 28 [.int .i64 0, .int .i64 0]]) (by kernel_rfl) ?_
        refine TI.run 3 [3, 4, 5, 6, 8, 14, 18, 19] [0, 1, 2, 3] (a2 := (st 42 [(3, .pointer (some ⟨0, 0, none⟩)), (4, .pointer (some ⟨1, 0, none⟩)), (5, .pointer (some ⟨2, 0, none⟩)), (6, .pointer (some ⟨3, 0, none⟩)), (8, .int .i64 r1), (14, .bool true), (18, .bool false), (19, .agg ⟨[.int .i64 p6, .int .i64 p7]⟩)])) (h2 := [.cells 30 [.int .i64 p0, .int .i64 p1, .int .i64 p2, .int .i64 p3], .cells 28 [.int .i64 p4, .int .i64 p5], .cells 41 [.int .i64 p6, .int .i64 p7], .cells 28 [.int .i64 0, .int .i64 0]]) (by kernel_rfl) ?_
        refine TI.callM (g := 56) (args := [.agg ⟨[.int .i64 p6, .int .i64 p7]⟩]) (v := .bool true) (new := []) (by kernel_rfl) (PureSim.any (C56 p6 p7 true h7) (flatL (by kernel_rfl)) (by kernel_rfl) [.cells 30 [.int .i64 p0, .int .i64 p1, .int .i64 p2, .int .i64 p3], .cells 28 [.int .i64 p4, .int .i64 p5], .cells 41 [.int .i64 p6, .int .i64 p7], .cells 28 [.int .i64 0, .int .i64 0]]) [3, 4, 5, 6, 8, 14, 18, 20] [0, 1, 2, 3] (a2 := (st 42 [(3, .pointer (some ⟨0, 0, none⟩)), (4, .pointer (some ⟨1, 0, none⟩)), (5, .pointer (some ⟨2, 0, none⟩)), (6, .pointer (some ⟨3, 0, none⟩)), (8, .int .i64 r1), (14, .bool true), (18, .bool false), (20, .bool true)])) (h2 := [.cells 30 [.int .i64 p0, .int .i64 p1, .int .i64 p2, .int .i64 p3], .cells 28 [.int .i64 p4, .int .i64 p5], .cells 41 [.int .i64 p6, .int .i64 p7], .cells 28 [.int .i64 0, .int .i64 0]]) (by kernel_rfl) ?_
        refine TI.run 3 [3, 4, 5, 6, 8, 23] [0, 1, 2, 3] (a2 := (st 42 [(3, .pointer (some ⟨0, 0, none⟩)), (4, .pointer (some ⟨1, 0, none⟩)), (5, .pointer (some ⟨2, 0, none⟩)), (6, .pointer (some ⟨3, 0, none⟩)), (8, .int .i64 r1), (23, .bool false)])) (h2 := [.cells 30 [.int .i64 p0, .int .i64 p1, .int .i64 p2, .int .i64 p3], .cells 28 [.int .i64 p4, .int .i64 p5], .cells 41 [.int .i64 p6, .int .i64 p7], .cells 28 [.int .i64 0, .int .i64 0]]) (by kernel_rfl) ?_
        refine TI.done (by kernel_rfl) ?_
        exact hK
      | false =>
        replace hm16 := of_neg hm16 rfl
        have hm16 := Option.some.inj hm16
        subst hm16
        refine TS.region' (id := 2) (b := false) (ops := c17.s2.s2.s1.s1.rops) (by kernel_rfl) rfl ?_
        refine TI.run 1 [3, 4, 5, 6, 8, 12] [0, 1, 2, 3] (a2 := (st 42 [(3, .pointer (some ⟨0, 0, none⟩)), (4, .pointer (some ⟨1, 0, none⟩)), (5, .pointer (some ⟨2, 0, none⟩)), (6, .pointer (some ⟨3, 0, none⟩)), (8, .int .i64 r1), (12, .int .i64 r1)])) (h2 := [.cells 30 [.int .i64 p0, .int .i64 p1, .int .i64 p2, .int .i64 p3], .cells 28 [.int .i64 p4, .int .i64 p5], .cells 41 [.int .i64 p6, .int .i64 p7], .cells 28 [.int .i64 0, .int .i64 0]]) (by kernel_rfl) ?_
        refine TI.op (q := { val := .bool true }) (q_conv (e := r1 == 0) (b := true) (by kernel_rfl) hc3) [3, 4, 5, 6, 8, 13] [0, 1, 2, 3] (a2 := (st 42 [(3, .pointer (some ⟨0, 0, none⟩)), (4, .pointer (some ⟨1, 0, none⟩)), (5, .pointer (some ⟨2, 0, none⟩)), (6, .pointer (some ⟨3, 0, none⟩)), (8, .int .i64 r1), (13, .bool true)])) (h2 := [.cells 30 [.int .i64 p0, .int .i64 p1, .int .i64 p2, .int .i64 p3], .cells 28 [.int .i64 p4, .int .i64 p5], .cells 41 [.int .i64 p6, .int .i64 p7], .cells 28 [.int .i64 0, .int .i64 0]]) (by kernel_rfl) ?_
        refine TI.run 2 [3, 4, 5, 6, 8, 14, 15] [0, 1, 2, 3] (a2 := (st 42 [(3, .pointer (some ⟨0, 0, none⟩)), (4, .pointer (some ⟨1, 0, none⟩)), (5, .pointer (some ⟨2, 0, none⟩)), (6, .pointer (some ⟨3, 0, none⟩)), (8, .int .i64 r1), (14, .bool true), (15, .agg ⟨[.int .i64 p4, .int .i64 p5]⟩)])) (h2 := [.cells 30 [.int .i64 p0, .int .i64 p1, .int .i64 p2, .int .i64 p3], .cells 28 [.int .i64 p4, .int .i64 p5], .cells 41 [.int .i64 p6, .int .i64 p7], .cells 28 [.int .i64 0, .int .i64 0]]) (by kernel_rfl) ?_
        refine TI.callM (g := 55) (args := [.agg ⟨[.int .i64 p4, .int .i64 p5]⟩, .int .i64 10000]) (v := .bool true) (new := []) (by kernel_rfl) (PureSim.any (C55 p4 p5 10000 true h5) (flatL (by kernel_rfl)) (by kernel_rfl) [.cells 30 [.int .i64 p0, .int .i64 p1, .int .i64 p2, .int .i64 p3], .cells 28 [.int .i64 p4, .int .i64 p5], .cells 41 [.int .i64 p6, .int .i64 p7], .cells 28 [.int .i64 0, .int .i64 0]]) [3, 4, 5, 6, 8, 14, 16] [0, 1, 2, 3] (a2 := (st 42 [(3, .pointer (some ⟨0, 0, none⟩)), (4, .pointer (some ⟨1, 0, none⟩)), (5, .pointer (some ⟨2, 0, none⟩)), (6, .pointer (some ⟨3, 0, none⟩)), (8, .int .i64 r1), (14, .bool true), (16, .bool true)])) (h2 := [.cells 30 [.int .i64 p0, .int .i64 p1, .int .i64 p2, .int .i64 p3], .cells 28 [.int .i64 p4, .int .i64 p5], .cells 41 [.int .i64 p6, .int .i64 p7], .cells 28 [.int .i64 0, .int .i64 0]]) (by kernel_rfl) ?_
        refine TI.run 3 [3, 4, 5, 6, 8, 14, 18, 19] [0, 1, 2, 3] (a2 := (st 42 [(3, .pointer (some ⟨0, 0, none⟩)), (4, .pointer (some ⟨1, 0, none⟩)), (5, .pointer (some ⟨2, 0, none⟩)), (6, .pointer (some ⟨3, 0, none⟩)), (8, .int .i64 r1), (14, .bool true), (18, .bool false), (19, .agg ⟨[.int .i64 p6, .int .i64 p7]⟩)])) (h2 := [.cells 30 [.int .i64 p0, .int .i64 p1, .int .i64 p2, .int .i64 p3], .cells 28 [.int .i64 p4, .int .i64 p5], .cells 41 [.int .i64 p6, .int .i64 p7], .cells 28 [.int .i64 0, .int .i64 0]]) (by kernel_rfl) ?_
        refine TI.callM (g := 56) (args := [.agg ⟨[.int .i64 p6, .int .i64 p7]⟩]) (v := .bool false) (new := []) (by kernel_rfl) (PureSim.any (C56 p6 p7 false h7) (flatL (by kernel_rfl)) (by kernel_rfl) [.cells 30 [.int .i64 p0, .int .i64 p1, .int .i64 p2, .int .i64 p3], .cells 28 [.int .i64 p4, .int .i64 p5], .cells 41 [.int .i64 p6, .int .i64 p7], .cells 28 [.int .i64 0, .int .i64 0]]) [3, 4, 5, 6, 8, 14, 18, 20] [0, 1, 2, 3] (a2 := (st 42 [(3, .pointer (some ⟨0, 0, none⟩)), (4, .pointer (some ⟨1, 0, none⟩)), (5, .pointer (some ⟨2, 0, none⟩)), (6, .pointer (some ⟨3, 0, none⟩)), (8, .int .i64 r1), (14, .bool true), (18, .bool false), (20, .bool false)])) (h2 := [.cells 30 [.int .i64 p0, .int .i64 p1, .int .i64 p2, .int .i64 p3], .cells 28 [.int .i64 p4, .int .i64 p5], .cells 41 [.int .i64 p6, .int .i64 p7], .cells 28 [.int .i64 0, .int .i64 0]]) (by kernel_rfl) ?_
        refine TI.run 3 [3, 4, 5, 6, 8, 23] [0, 1, 2, 3] (a2 := (st 42 [(3, .pointer (some ⟨0, 0, none⟩)), (4, .pointer (some ⟨1, 0, none⟩)), (5, .pointer (some ⟨2, 0, none⟩)), (6, .pointer (some ⟨3, 0, none⟩)), (8, .int .i64 r1), (23, .bool true)])) (h2 := [.cells 30 [.int .i64 p0, .int .i64 p1, .int .i64 p2, .int .i64 p3], .cells 28 [.int .i64 p4, .int .i64 p5], .cells 41 [.int .i64 p6, .int .i64 p7], .cells 28 [.int .i64 0, .int .i64 0]]) (by kernel_rfl) ?_
        refine TI.done (by kernel_rfl) ?_
        exact hK
    | false =>
      replace hm16 := of_neg hm16 rfl
      have hm16 := Option.some.inj hm16
      subst hm16
      refine TS.region' (id := 2) (b := false) (ops := c17.s2.s2.s1.s1.rops) (by kernel_rfl) rfl ?_
      refine TI.run 1 [3, 4, 5, 6, 8, 12] [0, 1, 2, 3] (a2 := (st 42 [(3, .pointer (some ⟨0, 0, none⟩)), (4, .pointer (some ⟨1, 0, none⟩)), (5, .pointer (some ⟨2, 0, none⟩)), (6, .pointer (some ⟨3, 0, none⟩)), (8, .int .i64 r1), (12, .int .i64 r1)])) (h2 := [.cells 30 [.int .i64 p0, .int .i64 p1, .int .i64 p2, .int .i64 p3], .cells 28 [.int .i64 p4, .int .i64 p5], .cells 41 [.int .i64 p6, .int .i64 p7], .cells 28 [.int .i64 0, .int .i64 0]]) (by kernel_rfl) ?_
      refine TI.op (q := { val := .bool true }) (q_conv (e := r1 == 0) (b := true) (by kernel_rfl) hc3) [3, 4, 5, 6, 8, 13] [0, 1, 2, 3] (a2 := (st 42 [(3, .pointer (some ⟨0, 0, none⟩)), (4, .pointer (some ⟨1, 0, none⟩)), (5, .pointer (some ⟨2, 0, none⟩)), (6, .pointer (some ⟨3, 0, none⟩)), (8, .int .i64 r1), (13, .bool true)])) (h2 := [.cells 30 [.int .i64 p0, .int .i64 p1, .int .i64 p2, .int .i64 p3], .cells 28 [.int .i64 p4, .int .i64 p5], .cells 41 [.int .i64 p6, .int .i64 p7], .cells 28 [.int .i64 0, .int .i64 0]]) (by kernel_rfl) ?_
      refine TI.run 2 [3, 4, 5, 6, 8, 14, 15] [0, 1, 2, 3] (a2 := (st 42 [(3, .pointer (some ⟨0, 0, none⟩)), (4, .pointer (some ⟨1, 0, none⟩)), (5, .pointer (some ⟨2, 0, none⟩)), (6, .pointer (some ⟨3, 0, none⟩)), (8, .int .i64 r1), (14, .bool true), (15, .agg ⟨[.int .i64 p4, .int .i64 p5]⟩)])) (h2 := [.cells 30 [.int .i64 p0, .int .i64 p1, .int .i64 p2, .int .i64 p3], .cells 28 [.int .i64 p4, .int .i64 p5], .cells 41 [.int .i64 p6, .int .i64 p7], .cells 28 [.int .i64 0, .int .i64 0]]) (by kernel_rfl) ?_
      refine TI.callM (g := 55) (args := [.agg ⟨[.int .i64 p4, .int .i64 p5]⟩, .int .i64 10000]) (v := .bool false) (new := []) (by kernel_rfl) (PureSim.any (C55 p4 p5 10000 false h5) (flatL (by kernel_rfl)) (by kernel_rfl) [.cells 30 [.int .i64 p0, .int .i64 p1, .int .i64 p2, .int .i64 p3], .cells 28 [.int .i64 p4, .int .i64 p5], .cells 41 [.int .i64 p6, .int .i64 p7], .cells 28 [.int .i64 0, .int .i64 0]]) [3, 4, 5, 6, 8, 14, 16] [0, 1, 2, 3] (a2 := (st 42 [(3, .pointer (some ⟨0, 0, none⟩)), (4, .pointer (some ⟨1, 0, none⟩)), (5, .pointer (some ⟨2, 0, none⟩)), (6, .pointer (some ⟨3, 0, none⟩)), (8, .int .i64 r1), (14, .bool true), (16, .bool false)])) (h2 := [.cells 30 [.int .i64 p0, .int .i64 p1, .int .i64 p2, .int .i64 p3], .cells 28 [.int .i64 p4, .int .i64 p5], .cells 41 [.int .i64 p6, .int .i64 p7], .cells 28 [.int .i64 0, .int .i64 0]]) (by kernel_rfl) ?_
      refine TI.run 7 [3, 4, 5, 6, 8, 23] [0, 1, 2, 3] (a2 := (st 42 [(3, .pointer (some ⟨0, 0, none⟩)), (4, .pointer (some ⟨1, 0, none⟩)), (5, .pointer (some ⟨2, 0, none⟩)), (6, .pointer (some ⟨3, 0, none⟩)), (8, .int .i64 r1), (23, .bool true)])) (h2 := [.cells 30 [.int .i64 p0, .int .i64 p1, .int .i64 p2, .int .i64 p3], .cells 28 [.int .i64 p4, .int .i64 p5], .cells 41 [.int .i64 p6, .int .i64 p7], .cells 28 [.int .i64 0, .int .i64 0]]) (by kernel_rfl) ?_
      refine TI.done (by kernel_rfl) ?_
      exact hK
  · replace hm16 := of_neg hm16 hc3
    have hm16 := Option.some.inj hm16
    subst hm16
    refine TS.region' (id := 2) (b := false) (ops := c17.s2.s2.s1.s1.rops) (by kernel_rfl) rfl ?_
    refine TI.run 1 [3, 4, 5, 6, 8, 12] [0, 1, 2, 3] (a2 := (st 42 [(3, .pointer (some ⟨0, 0, none⟩)), (4, .pointer (some ⟨1, 0, none⟩)), (5, .pointer (some ⟨2, 0, none⟩)), (6, .pointer (some ⟨3, 0, none⟩)), (8, .int .i64 r1), (12, .int .i64 r1)])) (h2 := [.cells 30 [.int .i64 p0, .int .i64 p1, .int .i64 p2, .int .i64 p3], .cells 28 [.int .i64 p4, .int .i64 p5], .cells 41 [.int .i64 p6, .int .i64 p7], .cells 28 [.int .i64 0, .int .i64 0]]) (by kernel_rfl) ?_
    refine TI.op (q := { val := .bool false }) (q_conv (e := r1 == 0) (b := false) (by kernel_rfl) hc3) [3, 4, 5, 6, 8, 13] [0, 1, 2, 3] (a2 := (st 42 [(3, .pointer (some ⟨0, 0, none⟩)), (4, .pointer (some ⟨1, 0, none⟩)), (5, .pointer (some ⟨2, 0, none⟩)), (6, .pointer (some ⟨3, 0, none⟩)), (8, .int .i64 r1), (13, .bool false)])) (h2 := [.cells 30 [.int .i64 p0, .int .i64 p1, .int .i64 p2, .int .i64 p3], .cells 28 [.int .i64 p4, .int .i64 p5], .cells 41 [.int .i64 p6, .int .i64 p7], .cells 28 [.int .i64 0, .int .i64 0]]) (by kernel_rfl) ?_
    refine TI.run 10 [3, 4, 5, 6, 8, 23] [0, 1, 2, 3] (a2 := (st 42 [(3, .pointer (some ⟨0, 0, none⟩)), (4, .pointer (some ⟨1, 0, none⟩)), (5, .pointer (some ⟨2, 0, none⟩)), (6, .pointer (some ⟨3, 0, none⟩)), (8, .int .i64 r1), (23, .bool false)])) (h2 := [.cells 30 [.int .i64 p0, .int .i64 p1, .int .i64 p2, .int .i64 p3], .cells 28 [.int .i64 p4, .int .i64 p5], .cells 41 [.int .i64 p6, .int .i64 p7], .cells 28 [.int .i64 0, .int .i64 0]]) (by kernel_rfl) ?_
    refine TI.done (by kernel_rfl) ?_
    exact hK
theorem C17 (p0 : Int) (p1 : Int) (p2 : Int) (p3 : Int) (p4 : Int) (p5 : Int) (p6 : Int) (p7 : Int) (r : ((Int × Int) × Int)) (hF : F17 p0 p1 p2 p3 p4 p5 p6 p7 = some r) : PureSim Try.prog 17 [.agg ⟨[.int .i64 p0, .int .i64 p1, .int .i64 p2, .int .i64 p3]⟩, .agg ⟨[.int .i64 p4, .int .i64 p5]⟩, .agg ⟨[.int .i64 p6, .int .i64 p7]⟩] [] (V17 0 r) (N17 0 r) :=
  PureSim.of_Fin Try.func17 (c := c17) (by kernel_rfl) (by kernel_rfl) 0 rfl [0, 1, 2] [] (by kernel_rfl) (B17 p0 p1 p2 p3 p4 p5 p6 p7 r hF)

-- agonic/agonicref06.product
noncomputable def c64 : Code := Try.f64.code
def F64 (p0 : Int) (p1 : Int) (p2 : Int) (p3 : Int) : Option Int :=
  some (w64 ((w64 (p0 * p2)) + (w64 (p1 * p3))))
def V64 (b : Nat) (r : Int) : Value := .int .i64 r
def N64 (b : Nat) (r : Int) : List Blk := []
theorem B64 (p0 : Int) (p1 : Int) (p2 : Int) (p3 : Int) (r : Int) (hF : F64 p0 p1 p2 p3 = some r) : TS Try.prog 0 0 c64 (st 16 [(0, .agg ⟨[.int .i64 p0, .int .i64 p1]⟩), (1, .agg ⟨[.int .i64 p2, .int .i64 p3]⟩)]) [] (NX Try.prog 0 0 [] (FinP Try.prog Try.f64 0 (V64 0 r) (N64 0 r))) := by
  unfold F64 at hF
  refine TS.seq' (x := c64.s1) (y := c64.s2) (by kernel_rfl) ?_
  refine TS.region' (id := 0) (b := false) (ops := c64.s1.rops) (by kernel_rfl) rfl ?_
  refine TI.run 3 [2, 3] [0, 1] (a2 := (st 16 [(2, .pointer (some ⟨0, 0, none⟩)), (3, .pointer (some ⟨1, 0, none⟩))])) (h2 := [.cells 28 [.int .i64 p0, .int .i64 p1], .cells 28 [.int .i64 p2, .int .i64 p3]]) (by kernel_rfl) ?_
  refine TI.done (by kernel_rfl) ?_
  refine NX.sq ?_
  refine TS.seq' (x := c64.s2.s1) (y := c64.s2.s2) (by kernel_rfl) ?_
  refine TS.region' (id := 1) (b := false) (ops := c64.s2.s1.rops) (by kernel_rfl) rfl ?_
  refine TI.run 12 [4] [] (a2 := (st 16 [(4, .int .i64 (w64 ((w64 (p0 * p2)) + (w64 (p1 * p3)))))])) (h2 := [.dead, .dead]) (by kernel_rfl) ?_
  refine TI.done (by kernel_rfl) ?_
  refine NX.sq ?_
  refine TS.ret' (by kernel_rfl) ?_
  have hF := Option.some.inj hF
  subst hF
  exact ⟨.inr rfl, rfl, .int .i64 (w64 ((w64 (p0 * p2)) + (w64 (p1 * p3)))), by kernel_rfl, WkV.flat0 (by kernel_rfl) (Nat.le_of_ble_eq_true rfl)⟩
theorem C64 (p0 : Int) (p1 : Int) (p2 : Int) (p3 : Int) (r : Int) (hF : F64 p0 p1 p2 p3 = some r) : PureSim Try.prog 64 [.agg ⟨[.int .i64 p0, .int .i64 p1]⟩, .agg ⟨[.int .i64 p2, .int .i64 p3]⟩] [] (V64 0 r) (N64 0 r) :=
  PureSim.of_Fin Try.func64 (c := c64) (by kernel_rfl) (by kernel_rfl) 0 rfl [0, 1] [] (by kernel_rfl) (B64 p0 p1 p2 p3 r hF)

-- agonic/agonicref06.reduced
noncomputable def c51 : Code := Try.f51.code
def F51 (p0 : Int) (p1 : Int) (p2 : Int) (p3 : Int) : Option Bool :=
  F64 p0 p1 p2 p3 >>= fun r1 =>
  F64 p0 p1 p0 p1 >>= fun r3 =>
  F64 p2 p3 p2 p3 >>= fun r5 =>
  (
    if decide (r3 ≤ r5) then
      F64 p0 p1 p0 p1 >>= fun r8 =>
      some (decide ((w64 (2 * (mx r1 (w64 (0 - r1))))) ≤ r8))
    else
      some (false)
  : Option Bool) >>= fun m10 =>
  some m10
def V51 (b : Nat) (r : Bool) : Value := .bool r
def N51 (b : Nat) (r : Bool) : List Blk := []
theorem B51 (p0 : Int) (p1 : Int) (p2 : Int) (p3 : Int) (r : Bool) (hF : F51 p0 p1 p2 p3 = some r) : TS Try.prog 0 0 c51 (st 33 [(0, .agg ⟨[.int .i64 p0, .int .i64 p1, .int .i64 p2, .int .i64 p3]⟩)]) [] (NX Try.prog 0 0 [] (FinP Try.prog Try.f51 0 (V51 0 r) (N51 0 r))) := by
  unfold F51 at hF
  refine TS.seq' (x := c51.s1) (y := c51.s2) (by kernel_rfl) ?_
  refine TS.region' (id := 0) (b := false) (ops := c51.s1.rops) (by kernel_rfl) rfl ?_
  refine TI.run 2 [1] [0] (a2 := (st 33 [(1, .pointer (some ⟨0, 0, none⟩))])) (h2 := [.cells 30 [.int .i64 p0, .int .i64 p1, .int .i64 p2, .int .i64 p3]]) (by kernel_rfl) ?_
  refine TI.done (by kernel_rfl) ?_
  refine NX.sq ?_
  refine TS.seq' (x := c51.s2.s1) (y := c51.s2.s2) (by kernel_rfl) ?_
  have hX := of_do hF
  clear hF
  obtain ⟨r1, h2, hF⟩ := hX
  refine TS.region' (id := 1) (b := false) (ops := c51.s2.s1.rops) (by kernel_rfl) rfl ?_
  refine TI.run 4 [1, 5, 7] [0] (a2 := (st 33 [(1, .pointer (some ⟨0, 0, none⟩)), (5, .agg ⟨[.int .i64 p0, .int .i64 p1]⟩), (7, .agg ⟨[.int .i64 p2, .int .i64 p3]⟩)])) (h2 := [.cells 30 [.int .i64 p0, .int .i64 p1, .int .i64 p2, .int .i64 p3]]) (by kernel_rfl) ?_
  refine TI.callM (g := 64) (args := [.agg ⟨[.int .i64 p0, .int .i64 p1]⟩, .agg ⟨[.int .i64 p2, .int .i64 p3]⟩]) (v := .int .i64 r1) (new := []) (by kernel_rfl) (PureSim.any (C64 p0 p1 p2 p3 r1 h2) (flatL (by kernel_rfl)) (by kernel_rfl) [.cells 30 [.int .i64 p0, .int .i64 p1, .int .i64 p2, .int .i64 p3]]) [1, 8] [0] (a2 := (st 33 [(1, .pointer (some ⟨0, 0, none⟩)), (8, .int .i64 r1)])) (h2 := [.cells 30 [.int .i64 p0, .int .i64 p1, .int .i64 p2, .int .i64 p3]]) (by kernel_rfl) ?_
  refine TI.run 1 [1, 3] [0] (a2 := (st 33 [(1, .pointer (some ⟨0, 0, none⟩)), (3, .int .i64 r1)])) (h2 := [.cells 30 [.int .i64 p0, .int .i64 p1, .int .i64 p2, .int .i64 p3]]) (by kernel_rfl) ?_
  refine TI.done (by kernel_rfl) ?_
  refine NX.sq ?_
  refine TS.seq' (x := c51.s2.s2.s1) (y := c51.s2.s2.s2) (by kernel_rfl) ?_
  have hX := of_do hF
  clear hF
  obtain ⟨r3, h4, hF⟩ := hX
  have hX := of_do hF
  clear hF
  obtain ⟨r5, h6, hF⟩ := hX
  have hX := of_do hF
  clear hF
  obtain ⟨m10, hm11, hF⟩ := hX
  have hK : NX Try.prog 0 0 [.sq c51.s2.s2.s2] (FinP Try.prog Try.f51 0 (V51 0 r) (N51 0 r)) .normal (st 33 [(2, .bool m10)]) [.dead] := by
    refine NX.sq ?_
    refine TS.ret' (by kernel_rfl) ?_
    have hF := Option.some.inj hF
    subst hF
    exact ⟨.inr rfl, rfl, .bool m10, by kernel_rfl, WkV.flat0 (by kernel_rfl) (Nat.le_of_ble_eq_true rfl)⟩
  rcases Bool.eq_false_or_eq_true (decide (r3 ≤ r5)) with hc7 | hc7
  · replace hm11 := of_pos hm11 hc7
    have hX := of_do hm11
    clear hm11
    obtain ⟨r8, h9, hm11⟩ := hX
    have hm11 := Option.some.inj hm11
    subst hm11
    have hT : ∀ e ∈ ([⟨64, [.agg ⟨[.int .i64 p0, .int .i64 p1]⟩, .agg ⟨[.int .i64 p0, .int .i64 p1]⟩], [.cells 30 [.int .i64 p0, .int .i64 p1, .int .i64 p2, .int .i64 p3]], .int .i64 r3, []⟩, ⟨64, [.agg ⟨[.int .i64 p2, .int .i64 p3]⟩, .agg ⟨[.int .i64 p2, .int .i64 p3]⟩], [.cells 30 [.int .i64 p0, .int .i64 p1, .int .i64 p2, .int .i64 p3]], .int .i64 r5, []⟩, ⟨64, [.agg ⟨[.int .i64 p0, .int .i64 p1]⟩, .agg ⟨[.int .i64 p0, .int .i64 p1]⟩], [.cells 30 [.int .i64 p0, .int .i64 p1, .int .i64 p2, .int .i64 p3]], .int .i64 r8, []⟩] : List Entry), PureSim Try.prog e.g e.args e.h e.v e.new := by
      intro e he
      simp only [List.mem_cons, List.not_mem_nil, or_false] at he
      rcases he with rfl | rfl | rfl
      · exact (PureSim.any (C64 p0 p1 p0 p1 r3 h4) (flatL (by kernel_rfl)) (by kernel_rfl) [.cells 30 [.int .i64 p0, .int .i64 p1, .int .i64 p2, .int .i64 p3]])
      · exact (PureSim.any (C64 p2 p3 p2 p3 r5 h6) (flatL (by kernel_rfl)) (by kernel_rfl) [.cells 30 [.int .i64 p0, .int .i64 p1, .int .i64 p2, .int .i64 p3]])
      · exact (PureSim.any (C64 p0 p1 p0 p1 r8 h9) (flatL (by kernel_rfl)) (by kernel_rfl) [.cells 30 [.int .i64 p0, .int .i64 p1, .int .i64 p2, .int .i64 p3]])
    refine TS.draw' (id := 2) (b := true) (ops := c51.s2.s2.s1.rops) (fin := ({ act := (st 33 [(1, .pointer (some ⟨0, 0, none⟩)), (3, .int .i64 r1), (9, .pointer (some ⟨0, 0, none⟩)), (10, .agg ⟨[.int .i64 p0, .int .i64 p1]⟩), (11, .pointer (some ⟨0, 0, none⟩)), (12, .agg ⟨[.int .i64 p0, .int .i64 p1]⟩), (13, .int .i64 r3), (14, .pointer (some ⟨0, 2, none⟩)), (15, .agg ⟨[.int .i64 p2, .int .i64 p3]⟩), (16, .pointer (some ⟨0, 2, none⟩)), (17, .agg ⟨[.int .i64 p2, .int .i64 p3]⟩), (18, .int .i64 r5), (19, .bool true), (20, .bool true), (21, .int .i64 r1), (22, .int .i64 r1), (23, .int .i64 (w64 (0 - r1))), (24, .int .i64 (mx r1 (w64 (0 - r1)))), (25, .int .i64 (w64 (2 * (mx r1 (w64 (0 - r1)))))), (26, .pointer (some ⟨0, 0, none⟩)), (27, .agg ⟨[.int .i64 p0, .int .i64 p1]⟩), (28, .pointer (some ⟨0, 0, none⟩)), (29, .agg ⟨[.int .i64 p0, .int .i64 p1]⟩), (30, .int .i64 r8)]), heap := [.cells 30 [.int .i64 p0, .int .i64 p1, .int .i64 p2, .int .i64 p3]], own := [], upds := [] } : QSt)) (fin2 := ({ act := (st 33 [(1, .pointer (some ⟨0, 0, none⟩)), (3, .int .i64 r1), (9, .pointer (some ⟨0, 0, none⟩)), (10, .agg ⟨[.int .i64 p0, .int .i64 p1]⟩), (11, .pointer (some ⟨0, 0, none⟩)), (12, .agg ⟨[.int .i64 p0, .int .i64 p1]⟩), (13, .int .i64 r3), (14, .pointer (some ⟨0, 2, none⟩)), (15, .agg ⟨[.int .i64 p2, .int .i64 p3]⟩), (16, .pointer (some ⟨0, 2, none⟩)), (17, .agg ⟨[.int .i64 p2, .int .i64 p3]⟩), (18, .int .i64 r5), (19, .bool true), (20, .bool true), (21, .int .i64 r1), (22, .int .i64 r1), (23, .int .i64 (w64 (0 - r1))), (24, .int .i64 (mx r1 (w64 (0 - r1)))), (25, .int .i64 (w64 (2 * (mx r1 (w64 (0 - r1)))))), (26, .pointer (some ⟨0, 0, none⟩)), (27, .agg ⟨[.int .i64 p0, .int .i64 p1]⟩), (28, .pointer (some ⟨0, 0, none⟩)), (29, .agg ⟨[.int .i64 p0, .int .i64 p1]⟩), (30, .int .i64 r8)]), heap := [.cells 30 [.int .i64 p0, .int .i64 p1, .int .i64 p2, .int .i64 p3]], own := [], upds := [] } : QSt)) (a1 := (st 33 [(1, .pointer (some ⟨0, 0, none⟩)), (2, .bool (decide ((w64 (2 * (mx r1 (w64 (0 - r1))))) ≤ r8))), (3, .int .i64 r1), (9, .pointer (some ⟨0, 0, none⟩)), (10, .agg ⟨[.int .i64 p0, .int .i64 p1]⟩), (11, .pointer (some ⟨0, 0, none⟩)), (12, .agg ⟨[.int .i64 p0, .int .i64 p1]⟩), (13, .int .i64 r3), (14, .pointer (some ⟨0, 2, none⟩)), (15, .agg ⟨[.int .i64 p2, .int .i64 p3]⟩), (16, .pointer (some ⟨0, 2, none⟩)), (17, .agg ⟨[.int .i64 p2, .int .i64 p3]⟩), (18, .int .i64 r5), (19, .bool true), (20, .bool true), (21, .int .i64 r1), (22, .int .i64 r1), (23, .int .i64 (w64 (0 - r1))), (24, .int .i64 (mx r1 (w64 (0 - r1)))), (25, .int .i64 (w64 (2 * (mx r1 (w64 (0 - r1)))))), (26, .pointer (some ⟨0, 0, none⟩)), (27, .agg ⟨[.int .i64 p0, .int .i64 p1]⟩), (28, .pointer (some ⟨0, 0, none⟩)), (29, .agg ⟨[.int .i64 p0, .int .i64 p1]⟩), (30, .int .i64 r8), (31, .bool (decide ((w64 (2 * (mx r1 (w64 (0 - r1))))) ≤ r8))), (32, .bool (decide ((w64 (2 * (mx r1 (w64 (0 - r1))))) ≤ r8)))])) (h1 := [.cells 30 [.int .i64 p0, .int .i64 p1, .int .i64 p2, .int .i64 p3]]) (a2 := (st 33 [(2, .bool (decide ((w64 (2 * (mx r1 (w64 (0 - r1))))) ≤ r8)))])) (h2 := [.dead]) [⟨64, [.agg ⟨[.int .i64 p0, .int .i64 p1]⟩, .agg ⟨[.int .i64 p0, .int .i64 p1]⟩], [.cells 30 [.int .i64 p0, .int .i64 p1, .int .i64 p2, .int .i64 p3]], .int .i64 r3, []⟩, ⟨64, [.agg ⟨[.int .i64 p2, .int .i64 p3]⟩, .agg ⟨[.int .i64 p2, .int .i64 p3]⟩], [.cells 30 [.int .i64 p0, .int .i64 p1, .int .i64 p2, .int .i64 p3]], .int .i64 r5, []⟩, ⟨64, [.agg ⟨[.int .i64 p0, .int .i64 p1]⟩, .agg ⟨[.int .i64 p0, .int .i64 p1]⟩], [.cells 30 [.int .i64 p0, .int .i64 p1, .int .i64 p2, .int .i64 p3]], .int .i64 r8, []⟩] hT mixed (by kernel_rfl) rfl 22 (by kernel_rfl) [] ?_ rfl (.inl ⟨rfl, rfl⟩) ?_ [2] [] (by kernel_rfl) ?_
    · refine QI.run (s1 := ({ act := (st 33 [(1, .pointer (some ⟨0, 0, none⟩)), (3, .int .i64 r1), (9, .pointer (some ⟨0, 0, none⟩)), (10, .agg ⟨[.int .i64 p0, .int .i64 p1]⟩), (11, .pointer (some ⟨0, 0, none⟩)), (12, .agg ⟨[.int .i64 p0, .int .i64 p1]⟩)]), heap := [.cells 30 [.int .i64 p0, .int .i64 p1, .int .i64 p2, .int .i64 p3]], own := [], upds := [] } : QSt)) 4 (by kernel_rfl) (by kernel_rfl) ?_
      refine QI.op (q := { val := .int .i64 r3, new := [] }) (s1 := ({ act := (st 33 [(1, .pointer (some ⟨0, 0, none⟩)), (3, .int .i64 r1), (9, .pointer (some ⟨0, 0, none⟩)), (10, .agg ⟨[.int .i64 p0, .int .i64 p1]⟩), (11, .pointer (some ⟨0, 0, none⟩)), (12, .agg ⟨[.int .i64 p0, .int .i64 p1]⟩), (13, .int .i64 r3)]), heap := [.cells 30 [.int .i64 p0, .int .i64 p1, .int .i64 p2, .int .i64 p3]], own := [], upds := [] } : QSt)) (by decide) (qOf_call (g := 64) (args := [.agg ⟨[.int .i64 p0, .int .i64 p1]⟩, .agg ⟨[.int .i64 p0, .int .i64 p1]⟩]) (by kernel_rfl) lookC_hit) (by kernel_rfl) ?_
      refine QI.run (s1 := ({ act := (st 33 [(1, .pointer (some ⟨0, 0, none⟩)), (3, .int .i64 r1), (9, .pointer (some ⟨0, 0, none⟩)), (10, .agg ⟨[.int .i64 p0, .int .i64 p1]⟩), (11, .pointer (some ⟨0, 0, none⟩)), (12, .agg ⟨[.int .i64 p0, .int .i64 p1]⟩), (13, .int .i64 r3), (14, .pointer (some ⟨0, 2, none⟩)), (15, .agg ⟨[.int .i64 p2, .int .i64 p3]⟩), (16, .pointer (some ⟨0, 2, none⟩)), (17, .agg ⟨[.int .i64 p2, .int .i64 p3]⟩)]), heap := [.cells 30 [.int .i64 p0, .int .i64 p1, .int .i64 p2, .int .i64 p3]], own := [], upds := [] } : QSt)) 4 (by kernel_rfl) (by kernel_rfl) ?_
      refine QI.op (q := { val := .int .i64 r5, new := [] }) (s1 := ({ act := (st 33 [(1, .pointer (some ⟨0, 0, none⟩)), (3, .int .i64 r1), (9, .pointer (some ⟨0, 0, none⟩)), (10, .agg ⟨[.int .i64 p0, .int .i64 p1]⟩), (11, .pointer (some ⟨0, 0, none⟩)), (12, .agg ⟨[.int .i64 p0, .int .i64 p1]⟩), (13, .int .i64 r3), (14, .pointer (some ⟨0, 2, none⟩)), (15, .agg ⟨[.int .i64 p2, .int .i64 p3]⟩), (16, .pointer (some ⟨0, 2, none⟩)), (17, .agg ⟨[.int .i64 p2, .int .i64 p3]⟩), (18, .int .i64 r5)]), heap := [.cells 30 [.int .i64 p0, .int .i64 p1, .int .i64 p2, .int .i64 p3]], own := [], upds := [] } : QSt)) (by decide) (qOf_call (g := 64) (args := [.agg ⟨[.int .i64 p2, .int .i64 p3]⟩, .agg ⟨[.int .i64 p2, .int .i64 p3]⟩]) (by kernel_rfl) (lookC_skip (by intro _ ha _; have hq := h4; have hi := h6; clear hF; first | (exfalso; simp at ha; done) | ((try simp at ha); have hr := Option.some.inj (hq.symm.trans (Eq.trans (by first | rfl | (congr 1 <;> first | rfl | omega | simp_all)) hi)); subst hr; rfl)) lookC_hit)) (by kernel_rfl) ?_
      refine QI.op (q := { val := .bool true }) (s1 := ({ act := (st 33 [(1, .pointer (some ⟨0, 0, none⟩)), (3, .int .i64 r1), (9, .pointer (some ⟨0, 0, none⟩)), (10, .agg ⟨[.int .i64 p0, .int .i64 p1]⟩), (11, .pointer (some ⟨0, 0, none⟩)), (12, .agg ⟨[.int .i64 p0, .int .i64 p1]⟩), (13, .int .i64 r3), (14, .pointer (some ⟨0, 2, none⟩)), (15, .agg ⟨[.int .i64 p2, .int .i64 p3]⟩), (16, .pointer (some ⟨0, 2, none⟩)), (17, .agg ⟨[.int .i64 p2, .int .i64 p3]⟩), (18, .int .i64 r5), (19, .bool true)]), heap := [.cells 30 [.int .i64 p0, .int .i64 p1, .int .i64 p2, .int .i64 p3]], own := [], upds := [] } : QSt)) (by decide) (q_conv (e := decide (r3 ≤ r5)) (b := true) (by kernel_rfl) hc7) (by kernel_rfl) ?_
      refine QI.run (s1 := ({ act := (st 33 [(1, .pointer (some ⟨0, 0, none⟩)), (3, .int .i64 r1), (9, .pointer (some ⟨0, 0, none⟩)), (10, .agg ⟨[.int .i64 p0, .int .i64 p1]⟩), (11, .pointer (some ⟨0, 0, none⟩)), (12, .agg ⟨[.int .i64 p0, .int .i64 p1]⟩), (13, .int .i64 r3), (14, .pointer (some ⟨0, 2, none⟩)), (15, .agg ⟨[.int .i64 p2, .int .i64 p3]⟩), (16, .pointer (some ⟨0, 2, none⟩)), (17, .agg ⟨[.int .i64 p2, .int .i64 p3]⟩), (18, .int .i64 r5), (19, .bool true), (20, .bool true), (21, .int .i64 r1), (22, .int .i64 r1), (23, .int .i64 (w64 (0 - r1))), (24, .int .i64 (mx r1 (w64 (0 - r1)))), (25, .int .i64 (w64 (2 * (mx r1 (w64 (0 - r1)))))), (26, .pointer (some ⟨0, 0, none⟩)), (27, .agg ⟨[.int .i64 p0, .int .i64 p1]⟩), (28, .pointer (some ⟨0, 0, none⟩)), (29, .agg ⟨[.int .i64 p0, .int .i64 p1]⟩)]), heap := [.cells 30 [.int .i64 p0, .int .i64 p1, .int .i64 p2, .int .i64 p3]], own := [], upds := [] } : QSt)) 10 (by kernel_rfl) (by kernel_rfl) ?_
      refine QI.op (q := { val := .int .i64 r8, new := [] }) (s1 := ({ act := (st 33 [(1, .pointer (some ⟨0, 0, none⟩)), (3, .int .i64 r1), (9, .pointer (some ⟨0, 0, none⟩)), (10, .agg ⟨[.int .i64 p0, .int .i64 p1]⟩), (11, .pointer (some ⟨0, 0, none⟩)), (12, .agg ⟨[.int .i64 p0, .int .i64 p1]⟩), (13, .int .i64 r3), (14, .pointer (some ⟨0, 2, none⟩)), (15, .agg ⟨[.int .i64 p2, .int .i64 p3]⟩), (16, .pointer (some ⟨0, 2, none⟩)), (17, .agg ⟨[.int .i64 p2, .int .i64 p3]⟩), (18, .int .i64 r5), (19, .bool true), (20, .bool true), (21, .int .i64 r1), (22, .int .i64 r1), (23, .int .i64 (w64 (0 - r1))), (24, .int .i64 (mx r1 (w64 (0 - r1)))), (25, .int .i64 (w64 (2 * (mx r1 (w64 (0 - r1)))))), (26, .pointer (some ⟨0, 0, none⟩)), (27, .agg ⟨[.int .i64 p0, .int .i64 p1]⟩), (28, .pointer (some ⟨0, 0, none⟩)), (29, .agg ⟨[.int .i64 p0, .int .i64 p1]⟩), (30, .int .i64 r8)]), heap := [.cells 30 [.int .i64 p0, .int .i64 p1, .int .i64 p2, .int .i64 p3]], own := [], upds := [] } : QSt)) (by decide) (qOf_call (g := 64) (args := [.agg ⟨[.int .i64 p0, .int .i64 p1]⟩, .agg ⟨[.int .i64 p0, .int .i64 p1]⟩]) (by kernel_rfl) (lookC_skip (by intro _ ha _; have hq := h4; have hi := h9; clear hF; first | (exfalso; simp at ha; done) | ((try simp at ha); have hr := Option.some.inj (hq.symm.trans (Eq.trans (by first | rfl | (congr 1 <;> first | rfl | omega | simp_all)) hi)); subst hr; rfl)) (lookC_skip (by intro _ ha _; have hq := h6; have hi := h9; clear hF; first | (exfalso; simp at ha; done) | ((try simp at ha); have hr := Option.some.inj (hq.symm.trans (Eq.trans (by first | rfl | (congr 1 <;> first | rfl | omega | simp_all)) hi)); subst hr; rfl)) lookC_hit))) (by kernel_rfl) ?_
      exact QI.done (by kernel_rfl)
    · refine SI.run (a2 := (st 33 [(1, .pointer (some ⟨0, 0, none⟩)), (2, .bool (decide ((w64 (2 * (mx r1 (w64 (0 - r1))))) ≤ r8))), (3, .int .i64 r1), (9, .pointer (some ⟨0, 0, none⟩)), (10, .agg ⟨[.int .i64 p0, .int .i64 p1]⟩), (11, .pointer (some ⟨0, 0, none⟩)), (12, .agg ⟨[.int .i64 p0, .int .i64 p1]⟩), (13, .int .i64 r3), (14, .pointer (some ⟨0, 2, none⟩)), (15, .agg ⟨[.int .i64 p2, .int .i64 p3]⟩), (16, .pointer (some ⟨0, 2, none⟩)), (17, .agg ⟨[.int .i64 p2, .int .i64 p3]⟩), (18, .int .i64 r5), (19, .bool true), (20, .bool true), (21, .int .i64 r1), (22, .int .i64 r1), (23, .int .i64 (w64 (0 - r1))), (24, .int .i64 (mx r1 (w64 (0 - r1)))), (25, .int .i64 (w64 (2 * (mx r1 (w64 (0 - r1)))))), (26, .pointer (some ⟨0, 0, none⟩)), (27, .agg ⟨[.int .i64 p0, .int .i64 p1]⟩), (28, .pointer (some ⟨0, 0, none⟩)), (29, .agg ⟨[.int .i64 p0, .int .i64 p1]⟩), (30, .int .i64 r8), (31, .bool (decide ((w64 (2 * (mx r1 (w64 (0 - r1))))) ≤ r8))), (32, .bool (decide ((w64 (2 * (mx r1 (w64 (0 - r1))))) ≤ r8)))])) (h2 := [.cells 30 [.int .i64 p0, .int .i64 p1, .int .i64 p2, .int .i64 p3]]) 3 (by kernel_rfl) ?_
      exact SI.done (by kernel_rfl)
    exact hK
  · replace hm11 := of_neg hm11 hc7
    have hm11 := Option.some.inj hm11
    subst hm11
    have hT : ∀ e ∈ ([⟨64, [.agg ⟨[.int .i64 p0, .int .i64 p1]⟩, .agg ⟨[.int .i64 p0, .int .i64 p1]⟩], [.cells 30 [.int .i64 p0, .int .i64 p1, .int .i64 p2, .int .i64 p3]], .int .i64 r3, []⟩, ⟨64, [.agg ⟨[.int .i64 p2, .int .i64 p3]⟩, .agg ⟨[.int .i64 p2, .int .i64 p3]⟩], [.cells 30 [.int .i64 p0, .int .i64 p1, .int .i64 p2, .int .i64 p3]], .int .i64 r5, []⟩] : List Entry), PureSim Try.prog e.g e.args e.h e.v e.new := by
      intro e he
      simp only [List.mem_cons, List.not_mem_nil, or_false] at he
      rcases he with rfl | rfl
      · exact (PureSim.any (C64 p0 p1 p0 p1 r3 h4) (flatL (by kernel_rfl)) (by kernel_rfl) [.cells 30 [.int .i64 p0, .int .i64 p1, .int .i64 p2, .int .i64 p3]])
      · exact (PureSim.any (C64 p2 p3 p2 p3 r5 h6) (flatL (by kernel_rfl)) (by kernel_rfl) [.cells 30 [.int .i64 p0, .int .i64 p1, .int .i64 p2, .int .i64 p3]])
    refine TS.draw' (id := 2) (b := true) (ops := c51.s2.s2.s1.rops) (fin := ({ act := (st 33 [(1, .pointer (some ⟨0, 0, none⟩)), (3, .int .i64 r1), (9, .pointer (some ⟨0, 0, none⟩)), (10, .agg ⟨[.int .i64 p0, .int .i64 p1]⟩), (11, .pointer (some ⟨0, 0, none⟩)), (12, .agg ⟨[.int .i64 p0, .int .i64 p1]⟩), (13, .int .i64 r3), (14, .pointer (some ⟨0, 2, none⟩)), (15, .agg ⟨[.int .i64 p2, .int .i64 p3]⟩), (16, .pointer (some ⟨0, 2, none⟩)), (17, .agg ⟨[.int .i64 p2, .int .i64 p3]⟩), (18, .int .i64 r5), (19, .bool false), (20, .bool false), (21, undef), (22, undef), (23, undef), (24, undef), (25, undef), (26, undef), (27, undef), (28, undef), (29, undef), (30, undef)]), heap := [.cells 30 [.int .i64 p0, .int .i64 p1, .int .i64 p2, .int .i64 p3]], own := [], upds := [] } : QSt)) (fin2 := ({ act := (st 33 [(1, .pointer (some ⟨0, 0, none⟩)), (3, .int .i64 r1), (9, .pointer (some ⟨0, 0, none⟩)), (10, .agg ⟨[.int .i64 p0, .int .i64 p1]⟩), (11, .pointer (some ⟨0, 0, none⟩)), (12, .agg ⟨[.int .i64 p0, .int .i64 p1]⟩), (13, .int .i64 r3), (14, .pointer (some ⟨0, 2, none⟩)), (15, .agg ⟨[.int .i64 p2, .int .i64 p3]⟩), (16, .pointer (some ⟨0, 2, none⟩)), (17, .agg ⟨[.int .i64 p2, .int .i64 p3]⟩), (18, .int .i64 r5), (19, .bool false), (20, .bool false), (21, undef), (22, undef), (23, undef), (24, undef), (25, undef), (26, undef), (27, undef), (28, undef), (29, undef), (30, undef)]), heap := [.cells 30 [.int .i64 p0, .int .i64 p1, .int .i64 p2, .int .i64 p3]], own := [], upds := [] } : QSt)) (a1 := (st 33 [(1, .pointer (some ⟨0, 0, none⟩)), (2, .bool false), (3, .int .i64 r1), (9, .pointer (some ⟨0, 0, none⟩)), (10, .agg ⟨[.int .i64 p0, .int .i64 p1]⟩), (11, .pointer (some ⟨0, 0, none⟩)), (12, .agg ⟨[.int .i64 p0, .int .i64 p1]⟩), (13, .int .i64 r3), (14, .pointer (some ⟨0, 2, none⟩)), (15, .agg ⟨[.int .i64 p2, .int .i64 p3]⟩), (16, .pointer (some ⟨0, 2, none⟩)), (17, .agg ⟨[.int .i64 p2, .int .i64 p3]⟩), (18, .int .i64 r5), (19, .bool false), (20, .bool false), (21, undef), (22, undef), (23, undef), (24, undef), (25, undef), (26, undef), (27, undef), (28, undef), (29, undef), (30, undef), (31, undef), (32, .bool false)])) (h1 := [.cells 30 [.int .i64 p0, .int .i64 p1, .int .i64 p2, .int .i64 p3]]) (a2 := (st 33 [(2, .bool false)])) (h2 := [.dead]) [⟨64, [.agg ⟨[.int .i64 p0, .int .i64 p1]⟩, .agg ⟨[.int .i64 p0, .int .i64 p1]⟩], [.cells 30 [.int .i64 p0, .int .i64 p1, .int .i64 p2, .int .i64 p3]], .int .i64 r3, []⟩, ⟨64, [.agg ⟨[.int .i64 p2, .int .i64 p3]⟩, .agg ⟨[.int .i64 p2, .int .i64 p3]⟩], [.cells 30 [.int .i64 p0, .int .i64 p1, .int .i64 p2, .int .i64 p3]], .int .i64 r5, []⟩] hT mixed (by kernel_rfl) rfl 22 (by kernel_rfl) [] ?_ rfl (.inl ⟨rfl, rfl⟩) ?_ [2] [] (by kernel_rfl) ?_
    · refine QI.run (s1 := ({ act := (st 33 [(1, .pointer (some ⟨0, 0, none⟩)), (3, .int .i64 r1), (9, .pointer (some ⟨0, 0, none⟩)), (10, .agg ⟨[.int .i64 p0, .int .i64 p1]⟩), (11, .pointer (some ⟨0, 0, none⟩)), (12, .agg ⟨[.int .i64 p0, .int .i64 p1]⟩)]), heap := [.cells 30 [.int .i64 p0, .int .i64 p1, .int .i64 p2, .int .i64 p3]], own := [], upds := [] } : QSt)) 4 (by kernel_rfl) (by kernel_rfl) ?_
      refine QI.op (q := { val := .int .i64 r3, new := [] }) (s1 := ({ act := (st 33 [(1, .pointer (some ⟨0, 0, none⟩)), (3, .int .i64 r1), (9, .pointer (some ⟨0, 0, none⟩)), (10, .agg ⟨[.int .i64 p0, .int .i64 p1]⟩), (11, .pointer (some ⟨0, 0, none⟩)), (12, .agg ⟨[.int .i64 p0, .int .i64 p1]⟩), (13, .int .i64 r3)]), heap := [.cells 30 [.int .i64 p0, .int .i64 p1, .int .i64 p2, .int .i64 p3]], own := [], upds := [] } : QSt)) (by decide) (qOf_call (g := 64) (args := [.agg ⟨[.int .i64 p0, .int .i64 p1]⟩, .agg ⟨[.int .i64 p0, .int .i64 p1]⟩]) (by kernel_rfl) lookC_hit) (by kernel_rfl) ?_
      refine QI.run (s1 := ({ act := (st 33 [(1, .pointer (some ⟨0, 0, none⟩)), (3, .int .i64 r1), (9, .pointer (some ⟨0, 0, none⟩)), (10, .agg ⟨[.int .i64 p0, .int .i64 p1]⟩), (11, .pointer (some ⟨0, 0, none⟩)), (12, .agg ⟨[.int .i64 p0, .int .i64 p1]⟩), (13, .int .i64 r3), (14, .pointer (some ⟨0, 2, none⟩)), (15, .agg ⟨[.int .i64 p2, .int .i64 p3]⟩), (16, .pointer (some ⟨0, 2, none⟩)), (17, .agg ⟨[.int .i64 p2, .int .i64 p3]⟩)]), heap := [.cells 30 [.int .i64 p0, .int .i64 p1, .int .i64 p2, .int .i64 p3]], own := [], upds := [] } : QSt)) 4 (by kernel_rfl) (by kernel_rfl) ?_
      refine QI.op (q := { val := .int .i64 r5, new := [] }) (s1 := ({ act := (st 33 [(1, .pointer (some ⟨0, 0, none⟩)), (3, .int .i64 r1), (9, .pointer (some ⟨0, 0, none⟩)), (10, .agg ⟨[.int .i64 p0, .int .i64 p1]⟩), (11, .pointer (some ⟨0, 0, none⟩)), (12, .agg ⟨[.int .i64 p0, .int .i64 p1]⟩), (13, .int .i64 r3), (14, .pointer (some ⟨0, 2, none⟩)), (15, .agg ⟨[.int .i64 p2, .int .i64 p3]⟩), (16, .pointer (some ⟨0, 2, none⟩)), (17, .agg ⟨[.int .i64 p2, .int .i64 p3]⟩), (18, .int .i64 r5)]), heap := [.cells 30 [.int .i64 p0, .int .i64 p1, .int .i64 p2, .int .i64 p3]], own := [], upds := [] } : QSt)) (by decide) (qOf_call (g := 64) (args := [.agg ⟨[.int .i64 p2, .int .i64 p3]⟩, .agg ⟨[.int .i64 p2, .int .i64 p3]⟩]) (by kernel_rfl) (lookC_skip (by intro _ ha _; have hq := h4; have hi := h6; clear hF; first | (exfalso; simp at ha; done) | ((try simp at ha); have hr := Option.some.inj (hq.symm.trans (Eq.trans (by first | rfl | (congr 1 <;> first | rfl | omega | simp_all)) hi)); subst hr; rfl)) lookC_hit)) (by kernel_rfl) ?_
      refine QI.op (q := { val := .bool false }) (s1 := ({ act := (st 33 [(1, .pointer (some ⟨0, 0, none⟩)), (3, .int .i64 r1), (9, .pointer (some ⟨0, 0, none⟩)), (10, .agg ⟨[.int .i64 p0, .int .i64 p1]⟩), (11, .pointer (some ⟨0, 0, none⟩)), (12, .agg ⟨[.int .i64 p0, .int .i64 p1]⟩), (13, .int .i64 r3), (14, .pointer (some ⟨0, 2, none⟩)), (15, .agg ⟨[.int .i64 p2, .int .i64 p3]⟩), (16, .pointer (some ⟨0, 2, none⟩)), (17, .agg ⟨[.int .i64 p2, .int .i64 p3]⟩), (18, .int .i64 r5), (19, .bool false)]), heap := [.cells 30 [.int .i64 p0, .int .i64 p1, .int .i64 p2, .int .i64 p3]], own := [], upds := [] } : QSt)) (by decide) (q_conv (e := decide (r3 ≤ r5)) (b := false) (by kernel_rfl) hc7) (by kernel_rfl) ?_
      refine QI.run (s1 := ({ act := (st 33 [(1, .pointer (some ⟨0, 0, none⟩)), (3, .int .i64 r1), (9, .pointer (some ⟨0, 0, none⟩)), (10, .agg ⟨[.int .i64 p0, .int .i64 p1]⟩), (11, .pointer (some ⟨0, 0, none⟩)), (12, .agg ⟨[.int .i64 p0, .int .i64 p1]⟩), (13, .int .i64 r3), (14, .pointer (some ⟨0, 2, none⟩)), (15, .agg ⟨[.int .i64 p2, .int .i64 p3]⟩), (16, .pointer (some ⟨0, 2, none⟩)), (17, .agg ⟨[.int .i64 p2, .int .i64 p3]⟩), (18, .int .i64 r5), (19, .bool false), (20, .bool false), (21, undef), (22, undef), (23, undef), (24, undef), (25, undef), (26, undef), (27, undef), (28, undef), (29, undef), (30, undef)]), heap := [.cells 30 [.int .i64 p0, .int .i64 p1, .int .i64 p2, .int .i64 p3]], own := [], upds := [] } : QSt)) 11 (by kernel_rfl) (by kernel_rfl) ?_
      exact QI.done (by kernel_rfl)
    · refine SI.run (a2 := (st 33 [(1, .pointer (some ⟨0, 0, none⟩)), (2, .bool false), (3, .int .i64 r1), (9, .pointer (some ⟨0, 0, none⟩)), (10, .agg ⟨[.int .i64 p0, .int .i64 p1]⟩), (11, .pointer (some ⟨0, 0, none⟩)), (12, .agg ⟨[.int .i64 p0, .int .i64 p1]⟩), (13, .int .i64 r3), (14, .pointer (some ⟨0, 2, none⟩)), (15, .agg ⟨[.int .i64 p2, .int .i64 p3]⟩), (16, .pointer (some ⟨0, 2, none⟩)), (17, .agg ⟨[.int .i64 p2, .int .i64 p3]⟩), (18, .int .i64 r5), (19, .bool false), (20, .bool false), (21, undef), (22, undef), (23, undef), (24, undef), (25, undef), (26, undef), (27, undef), (28, undef), (29, undef), (30, undef), (31, undef), (32, .bool false)])) (h2 := [.cells 30 [.int .i64 p0, .int .i64 p1, .int .i64 p2, .int .i64 p3]]) 3 (by kernel_rfl) ?_
      exact SI.done (by kernel_rfl)
    exact hK
theorem C51 (p0 : Int) (p1 : Int) (p2 : Int) (p3 : Int) (r : Bool) (hF : F51 p0 p1 p2 p3 = some r) : PureSim Try.prog 51 [.agg ⟨[.int .i64 p0, .int .i64 p1, .int .i64 p2, .int .i64 p3]⟩] [] (V51 0 r) (N51 0 r) :=
  PureSim.of_Fin Try.func51 (c := c51) (by kernel_rfl) (by kernel_rfl) 0 rfl [0] [] (by kernel_rfl) (B51 p0 p1 p2 p3 r hF)

-- agonic/agonicref06.down
noncomputable def c74 : Code := Try.f74.code
def F74 (p0 : Int) (p1 : Int) : Option Int :=
  if p1 = 0 then none else
  (
    if decide ((Int.tmod p0 p1) < 0) then
      some (w64 ((w64 (Int.tdiv p0 p1)) - 1))
    else
      some (w64 (Int.tdiv p0 p1))
  : Option Int) >>= fun m5 =>
  some m5
def V74 (b : Nat) (r : Int) : Value := .int .i64 r
def N74 (b : Nat) (r : Int) : List Blk := []
theorem B74 (p0 : Int) (p1 : Int) (r : Int) (hF : F74 p0 p1 = some r) : TS Try.prog 0 0 c74 (st 16 [(0, .int .i64 p0), (1, .int .i64 p1)]) [] (NX Try.prog 0 0 [] (FinP Try.prog Try.f74 0 (V74 0 r) (N74 0 r))) := by
  unfold F74 at hF
  refine TS.seq' (x := c74.s1) (y := c74.s2) (by kernel_rfl) ?_
  refine TS.region' (id := 0) (b := false) (ops := c74.s1.rops) (by kernel_rfl) rfl ?_
  refine TI.run 1 [0, 1] [] (a2 := (st 16 [(0, .int .i64 p0), (1, .int .i64 p1)])) (h2 := []) (by kernel_rfl) ?_
  refine TI.done (by kernel_rfl) ?_
  refine NX.sq ?_
  refine TS.seq' (x := c74.s2.s1) (y := c74.s2.s2) (by kernel_rfl) ?_
  have hX := of_guardn hF
  clear hF
  obtain ⟨hg1, hF⟩ := hX
  refine TS.region' (id := 1) (b := false) (ops := c74.s2.s1.rops) (by kernel_rfl) rfl ?_
  refine TI.run 2 [0, 1, 6, 7] [] (a2 := (st 16 [(0, .int .i64 p0), (1, .int .i64 p1), (6, .int .i64 p0), (7, .int .i64 p1)])) (h2 := []) (by kernel_rfl) ?_
  refine TI.op (q := { val := .int .i64 (w64 (Int.tdiv p0 p1)) }) (q_int (P := Try.prog) (op := .quo) (ty := 3) (ox := (.tmp 6)) (oy := (.tmp 7)) (k := .i64) (k' := .i64) (y := p0) (z := p1) (by kernel_rfl) (quo_ok hg1)) [0, 1, 8] [] (a2 := (st 16 [(0, .int .i64 p0), (1, .int .i64 p1), (8, .int .i64 (w64 (Int.tdiv p0 p1)))])) (h2 := []) (by kernel_rfl) ?_
  refine TI.run 1 [0, 1, 5] [] (a2 := (st 16 [(0, .int .i64 p0), (1, .int .i64 p1), (5, .int .i64 (w64 (Int.tdiv p0 p1)))])) (h2 := []) (by kernel_rfl) ?_
  refine TI.done (by kernel_rfl) ?_
  refine NX.sq ?_
  refine TS.seq' (x := c74.s2.s2.s1) (y := c74.s2.s2.s2) (by kernel_rfl) ?_
  refine TS.seq' (x := c74.s2.s2.s1.s1) (y := c74.s2.s2.s1.s2) (by kernel_rfl) ?_
  refine TS.region' (id := 2) (b := false) (ops := c74.s2.s2.s1.s1.rops) (by kernel_rfl) rfl ?_
  refine TI.run 2 [5, 9, 10] [] (a2 := (st 16 [(5, .int .i64 (w64 (Int.tdiv p0 p1))), (9, .int .i64 p0), (10, .int .i64 p1)])) (h2 := []) (by kernel_rfl) ?_
  refine TI.op (q := { val := .int .i64 (Int.tmod p0 p1) }) (q_int (P := Try.prog) (op := .rem) (ty := 3) (ox := (.tmp 9)) (oy := (.tmp 10)) (k := .i64) (k' := .i64) (y := p0) (z := p1) (by kernel_rfl) (rem_ok hg1)) [5, 11] [] (a2 := (st 16 [(5, .int .i64 (w64 (Int.tdiv p0 p1))), (11, .int .i64 (Int.tmod p0 p1))])) (h2 := []) (by kernel_rfl) ?_
  refine TI.run 1 [5, 12] [] (a2 := (st 16 [(5, .int .i64 (w64 (Int.tdiv p0 p1))), (12, .bool (decide ((Int.tmod p0 p1) < 0)))])) (h2 := []) (by kernel_rfl) ?_
  refine TI.done (by kernel_rfl) ?_
  refine NX.sq ?_
  have hX := of_do hF
  clear hF
  obtain ⟨m5, hm6, hF⟩ := hX
  have hK : NX Try.prog 0 0 [.sq c74.s2.s2.s2] (FinP Try.prog Try.f74 0 (V74 0 r) (N74 0 r)) .normal (st 16 [(5, .int .i64 m5)]) [] := by
    refine NX.sq ?_
    refine TS.seq' (x := c74.s2.s2.s2.s1) (y := c74.s2.s2.s2.s2) (by kernel_rfl) ?_
    refine TS.region' (id := 4) (b := false) (ops := c74.s2.s2.s2.s1.rops) (by kernel_rfl) rfl ?_
    refine TI.run 2 [4] [] (a2 := (st 16 [(4, .int .i64 m5)])) (h2 := []) (by kernel_rfl) ?_
    refine TI.done (by kernel_rfl) ?_
    refine NX.sq ?_
    refine TS.ret' (by kernel_rfl) ?_
    have hF := Option.some.inj hF
    subst hF
    exact ⟨.inr rfl, rfl, .int .i64 m5, by kernel_rfl, WkV.flat0 (by kernel_rfl) (Nat.le_of_ble_eq_true rfl)⟩
  clear hF
  have hF := hm6
  clear hm6
  refine TS.start ?_
  refine TS.cond' (o := (.tmp 12)) (x := c74.s2.s2.s1.s2.th) (y := c74.s2.s2.s1.s2.el) (b := decide ((Int.tmod p0 p1) < 0)) (by kernel_rfl) (by kernel_rfl) (fun hc7 => ?_) (fun hc7 => ?_)
  · replace hF := of_pos hF hc7
    refine TS.region' (id := 3) (b := false) (ops := c74.s2.s2.s1.s2.th.rops) (by kernel_rfl) rfl ?_
    refine TI.run 3 [5] [] (a2 := (st 16 [(5, .int .i64 (w64 ((w64 (Int.tdiv p0 p1)) - 1)))])) (h2 := []) (by kernel_rfl) ?_
    refine TI.done (by kernel_rfl) ?_
    have hF := Option.some.inj hF
    subst hF
    exact TS.weak (Wk.anew (base := 0) (L := 0) (f := []) (by decide) (by decide) (Nat.le_of_ble_eq_true rfl) rfl (.nil _) (LRn.stx [5] [.int .i64 (w64 ((w64 (Int.tdiv p0 p1)) - 1))] [.int .i64 (w64 ((w64 (Int.tdiv p0 p1)) - 1))] (.cons (.flat (by kernel_rfl)) .nil) (by kernel_rfl) (by kernel_rfl) rfl) rfl rfl) hK
  · replace hF := of_neg hF hc7
    refine TS.skip' (by kernel_rfl) ?_
    have hF := Option.some.inj hF
    subst hF
    exact TS.weak (Wk.anew (base := 0) (L := 0) (f := []) (by decide) (by decide) (Nat.le_of_ble_eq_true rfl) rfl (.nil _) (LRn.stx [5] [.int .i64 (w64 (Int.tdiv p0 p1))] [.int .i64 (w64 (Int.tdiv p0 p1))] (.cons (.flat (by kernel_rfl)) .nil) (by kernel_rfl) (by kernel_rfl) rfl) rfl rfl) hK
theorem C74 (p0 : Int) (p1 : Int) (r : Int) (hF : F74 p0 p1 = some r) : PureSim Try.prog 74 [.int .i64 p0, .int .i64 p1] [] (V74 0 r) (N74 0 r) :=
  PureSim.of_Fin Try.func74 (c := c74) (by kernel_rfl) (by kernel_rfl) 0 rfl [0, 1] [] (by kernel_rfl) (B74 p0 p1 r hF)

end Go.Proofs.Ytenjelagfbceeaa
