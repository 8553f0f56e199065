/- Answers that the examples of the chapter ask for. -/
import Derived.Test.YtdekbjfjbbdjgaaLS
import Derived.Test.YtdekbjfjbbdjgaaLWb
import Derived.KernelRfl
namespace Go.Proofs.Ytdekbjfjbbdjgaa.worked
open Go
set_option linter.unusedVariables false
set_option maxRecDepth 100000
noncomputable def env0 : Cl.Env := { P := Try.prog, sum := fun _ => none, imp := fun f => [57,60,61].contains f, strict := true }
theorem mixed : env0.P.follows .mixedOrders = true := by kernel_rfl
theorem ok0 : Cl.SumOk env0 := Cl.sumOk_none fun _ => rfl
section
open Go.Cl Go.Proofs.Ytdekbjfjbbdjgaa.plain
theorem parts_one {rd : List (Int × Int)} (h : Rec0 3 2 rd) (ha : Asc rd) (he : ∀ p : Int → Int, (∀ e ∈ edges 3 2 rd, p e.1 = p e.2.1) → (∀ x, 0 ≤ x → x < 5 → 0 ≤ p x ∧ p x ≤ x) → p 0 = 0 ∧ p 1 = 0 ∧ p 2 = 0 ∧ p 3 = 0 ∧ p 4 = 0) : F18 3 2 rd = some (1, 0) := by
 obtain ⟨out, P, W, B⟩ := both_of h ha
 obtain ⟨h0, h1, h2, h3, h4⟩ := he (at0 P) B.sr.edge B.sr.dom
 have : firsts ((3 : Int) + 2).toNat P = 1 := by
  show List.countP (fun i : Nat => decide (at0 P (i : Int) = (i : Int))) [0, 1, 2, 3, 4] = 1
  simp [h0, h1, h2, h3, h4]
 rw [B.parts, this]
 rfl
def rR : List (Int × Int) := [(0, 15), (1, 23), (2, 16), (3, 24)]
def rU : List (Int × Int) := [(0, 15), (1, 23), (2, 16), (5, 99)]
theorem asc4 {a b c d : Int × Int} (h : a.1 < b.1 ∧ b.1 < c.1 ∧ c.1 < d.1) : Asc [a, b, c, d] := fun j y hy => by
 match j, hy with
 | 0, _ => exact .inl rfl
 | 1, hy => cases hy; exact .inr h.1
 | 2, hy => cases hy; exact .inr h.2.1
 | 3, hy => cases hy; exact .inr h.2.2
 | j + 4, hy => cases hy
theorem fR : F18 3 2 rR = some (1, 0) := parts_one ⟨by decide, by decide, by decide, by decide, by decide⟩ (asc4 (by decide)) fun p hf hd => by
 have a := hf (0, 3, 15) (by decide)
 have b := hf (1, 4, 23) (by decide)
 have c := hf (2, 3, 16) (by decide)
 have d := hf (0, 4, 24) (by decide)
 have := hd 0 (by decide) (by decide)
 dsimp only at a b c d
 omega
theorem fU : F18 3 2 rU = some (1, 0) := parts_one ⟨by decide, by decide, by decide, by decide, by decide⟩ (asc4 (by decide)) fun p hf hd => by
 have a := hf (0, 3, 15) (by decide)
 have b := hf (1, 4, 23) (by decide)
 have c := hf (2, 3, 16) (by decide)
 have d := hf (2, 4, 99) (by decide)
 have := hd 0 (by decide) (by decide)
 dsimp only at a b c d
 omega
theorem old {n : Nat} {rd : List (Int × Int)} (hn : rd.length = n) (hF : F18 3 2 rd = some (1, 0)) : Cl.PureSim Try.prog 18 [Cl.ag [Cl.iv 3, Cl.iv 2, .slice (some ⟨0, 0, none⟩) n Cl.UNK]] [.cells 57 (rd.flatMap e57)] (.tuple ⟨[Cl.iv 1, Cl.iv 0]⟩) [] := by
 subst hn
 exact PureSim.ren (hc := [ab 57 e57 rd]) (fun i => List.getD [(0, 0)] i (0, 0)) (C18 _ _ _ _ hF) (.cons (At.accU (by kernel_rfl) rfl (fun _ => rfl)) (.nil _)) (.cons (Rn.agg' (.cons (.flat (by kernel_rfl)) (.cons (.flat (by kernel_rfl)) (.cons (Rn.any _ _ _ _ _ _ (Nat.le_of_ble_eq_true rfl) rfl rfl (by decide)) .nil)))) .nil) (.flat (by kernel_rfl)) newflat_nil
end
def sR : Cl.Entry := ⟨49, [(.agg (Array.mk [(.int .i64 3), (.int .i64 2), (.slice (some (Addr.mk 0 0 none)) 4 18446744073709551616)]))], [(.cells 57 [(.int .i64 0), (.int .i64 15), (.int .i64 1), (.int .i64 23), (.int .i64 2), (.int .i64 16), (.int .i64 3), (.int .i64 24)])], (.map (some 1)), [(.map 83 [((.agg (Array.mk [(.int .i64 0), (.int .i64 0)])), (.agg (Array.mk [(.int .i64 0), (.int .i64 0), (.int .i64 0), (.int .i64 (-1)), (.int .i64 0), (.int .i64 0)]))), ((.agg (Array.mk [(.int .i64 1), (.int .i64 0)])), (.agg (Array.mk [(.int .i64 0), (.int .i64 0), (.int .i64 15), (.int .i64 0), (.int .i64 0), (.int .i64 0)]))), ((.agg (Array.mk [(.int .i64 0), (.int .i64 2)])), (.agg (Array.mk [(.int .i64 0), (.int .i64 0), (.int .i64 1), (.int .i64 2), (.int .i64 1), (.int .i64 0)]))), ((.agg (Array.mk [(.int .i64 1), (.int .i64 1)])), (.agg (Array.mk [(.int .i64 0), (.int .i64 0), (.int .i64 24), (.int .i64 3), (.int .i64 0), (.int .i64 0)]))), ((.agg (Array.mk [(.int .i64 0), (.int .i64 1)])), (.agg (Array.mk [(.int .i64 0), (.int .i64 0), (.int .i64 (-1)), (.int .i64 1), (.int .i64 1), (.int .i64 1)])))])]⟩
theorem sR_gives : Cl.gives ((Cl.run env0 3000).pcall sR.g sR.args sR.h) sR.v sR.new = true := by kernel_rfl
theorem sR_ok : Cl.PureSim env0.P sR.g sR.args sR.h sR.v sR.new := Cl.entry_ok ok0 mixed sR_gives
def sU : Cl.Entry := ⟨49, [(.agg (Array.mk [(.int .i64 3), (.int .i64 2), (.slice (some (Addr.mk 0 0 none)) 4 18446744073709551616)]))], [(.cells 57 [(.int .i64 0), (.int .i64 15), (.int .i64 1), (.int .i64 23), (.int .i64 2), (.int .i64 16), (.int .i64 5), (.int .i64 99)])], (.map (some 1)), [(.map 83 [((.agg (Array.mk [(.int .i64 0), (.int .i64 0)])), (.agg (Array.mk [(.int .i64 0), (.int .i64 0), (.int .i64 0), (.int .i64 (-1)), (.int .i64 0), (.int .i64 0)]))), ((.agg (Array.mk [(.int .i64 1), (.int .i64 0)])), (.agg (Array.mk [(.int .i64 0), (.int .i64 0), (.int .i64 15), (.int .i64 0), (.int .i64 0), (.int .i64 0)]))), ((.agg (Array.mk [(.int .i64 0), (.int .i64 2)])), (.agg (Array.mk [(.int .i64 0), (.int .i64 0), (.int .i64 1), (.int .i64 2), (.int .i64 1), (.int .i64 0)]))), ((.agg (Array.mk [(.int .i64 1), (.int .i64 1)])), (.agg (Array.mk [(.int .i64 0), (.int .i64 0), (.int .i64 98), (.int .i64 3), (.int .i64 0), (.int .i64 2)]))), ((.agg (Array.mk [(.int .i64 0), (.int .i64 1)])), (.agg (Array.mk [(.int .i64 0), (.int .i64 0), (.int .i64 (-75)), (.int .i64 1), (.int .i64 1), (.int .i64 1)])))])]⟩
theorem sU_gives : Cl.gives ((Cl.run env0 3000).pcall sU.g sU.args sU.h) sU.v sU.new = true := by kernel_rfl
theorem sU_ok : Cl.PureSim env0.P sU.g sU.args sU.h sU.v sU.new := Cl.entry_ok ok0 mixed sU_gives
def sT : Cl.Entry := ⟨49, [(.agg (Array.mk [(.int .i64 3), (.int .i64 2), (.slice (some (Addr.mk 0 0 none)) 5 18446744073709551616)]))], [(.cells 57 [(.int .i64 0), (.int .i64 15), (.int .i64 1), (.int .i64 23), (.int .i64 2), (.int .i64 16), (.int .i64 3), (.int .i64 24), (.int .i64 5), (.int .i64 99)])], (.map (some 1)), [(.map 83 [((.agg (Array.mk [(.int .i64 0), (.int .i64 0)])), (.agg (Array.mk [(.int .i64 0), (.int .i64 0), (.int .i64 0), (.int .i64 (-1)), (.int .i64 0), (.int .i64 0)]))), ((.agg (Array.mk [(.int .i64 1), (.int .i64 0)])), (.agg (Array.mk [(.int .i64 0), (.int .i64 0), (.int .i64 15), (.int .i64 0), (.int .i64 0), (.int .i64 0)]))), ((.agg (Array.mk [(.int .i64 0), (.int .i64 2)])), (.agg (Array.mk [(.int .i64 0), (.int .i64 0), (.int .i64 1), (.int .i64 2), (.int .i64 1), (.int .i64 0)]))), ((.agg (Array.mk [(.int .i64 1), (.int .i64 1)])), (.agg (Array.mk [(.int .i64 0), (.int .i64 0), (.int .i64 98), (.int .i64 4), (.int .i64 0), (.int .i64 2)]))), ((.agg (Array.mk [(.int .i64 0), (.int .i64 1)])), (.agg (Array.mk [(.int .i64 0), (.int .i64 0), (.int .i64 (-75)), (.int .i64 1), (.int .i64 1), (.int .i64 1)])))])]⟩
theorem sT_gives : Cl.gives ((Cl.run env0 3000).pcall sT.g sT.args sT.h) sT.v sT.new = true := by kernel_rfl
theorem sT_ok : Cl.PureSim env0.P sT.g sT.args sT.h sT.v sT.new := Cl.entry_ok ok0 mixed sT_gives
def pR : Cl.Entry := ⟨18, [(.agg (Array.mk [(.int .i64 3), (.int .i64 2), (.slice (some (Addr.mk 0 0 none)) 4 18446744073709551616)]))], [(.cells 57 [(.int .i64 0), (.int .i64 15), (.int .i64 1), (.int .i64 23), (.int .i64 2), (.int .i64 16), (.int .i64 3), (.int .i64 24)])], .tuple ⟨[.int .i64 1, .int .i64 0]⟩, []⟩
theorem pR_ok : Cl.PureSim env0.P pR.g pR.args pR.h pR.v pR.new := old (n := 4) rfl fR
def pU : Cl.Entry := ⟨18, [(.agg (Array.mk [(.int .i64 3), (.int .i64 2), (.slice (some (Addr.mk 0 0 none)) 4 18446744073709551616)]))], [(.cells 57 [(.int .i64 0), (.int .i64 15), (.int .i64 1), (.int .i64 23), (.int .i64 2), (.int .i64 16), (.int .i64 5), (.int .i64 99)])], .tuple ⟨[.int .i64 1, .int .i64 0]⟩, []⟩
theorem pU_ok : Cl.PureSim env0.P pU.g pU.args pU.h pU.v pU.new := old (n := 4) rfl fU
def table1 : List Cl.Entry := [sR, sU, sT, pR, pU]
theorem true_table1 : ∀ e ∈ table1, Cl.PureSim env0.P e.g e.args e.h e.v e.new := by
 intro e he
 simp only [table1, List.mem_cons, List.not_mem_nil, or_false] at he
 rcases he with rfl | rfl | rfl | rfl | rfl
 · exact sR_ok
 · exact sU_ok
 · exact sT_ok
 · exact pR_ok
 exact pU_ok
noncomputable def env1 : Cl.Env := { env0 with sum := Cl.tableSumR table1 }
theorem ok1 : Cl.SumOk env1 := Cl.tableR_ok rfl true_table1
end Go.Proofs.Ytdekbjfjbbdjgaa.worked
