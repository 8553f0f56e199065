/- Structs of structs: how they are compared. -/
import Derived.Test.YtiaippkjgmccoaaCL
set_option linter.unusedVariables false
set_option maxRecDepth 100000
set_option maxHeartbeats 4000000
namespace Go.Cl
open Go Go.RowKit
section
variable {P : Program}
theorem pureRun_bind {α β : Type} (s : Sem α) (f : α → Sem β) : pureRun P (s >>= f) = (pureRun P s).bind fun a => pureRun P (f a) := by
 show pureRun P (Sem.bind s f) = _
 induction s with
 | pure a => rfl
 | program k ih => exact ih P
 | mark m k ih => exact ih
 | _ => rfl
theorem pr_pure {α : Type} (a : α) : pureRun P (pure a : Sem α) = some a := congrArg id (rfl : pureRun P (Sem.pure a) = some a)
theorem pr_map {α β : Type} (f : α → β) (s : Sem α) : pureRun P (f <$> s) = (pureRun P s).map f := by
 have : (f <$> s : Sem β) = s >>= fun a => pure (f a) := rfl
 rw [this, pureRun_bind]
 cases pureRun P s <;> rfl
theorem pr_und {t : TypeId} {d : TypeDesc} (h : P.underlying t = some d) : pureRun P (underlying t) = some d := by
 have hp : pureRun P program = some P := rfl
 simp [underlying, h, pureRun_bind, pr_pure, hp]
theorem pr_struct2 {d : Nat} {t : TypeId} {f g : Field} {xs ys : Array Value} {x1 y1 x2 y2 : Value} {b1 b2 : Bool} (hu : P.underlying t = some (.struct #[f, g])) (hs : P.stoodInHeld t = false)
 (hf : f.name ≠ "_") (hg : g.name ≠ "_") (p1 : pureRun P (part f.type xs f.offset) = some x1) (p2 : pureRun P (part f.type ys f.offset) = some y1) (e1 : pureRun P (Op.equalIn d f.type x1 y1) = some b1)
 (p3 : pureRun P (part g.type xs g.offset) = some x2) (p4 : pureRun P (part g.type ys g.offset) = some y2) (e2 : pureRun P (Op.equalIn d g.type x2 y2) = some b2) :
 pureRun P (Op.equalIn (d + 1) t (.agg xs) (.agg ys)) = some (b1 && (b2 && true)) := by
 simp only [Op.equalIn, pureRun_bind, pr_und hu, Option.bind_some]
 have hp : pureRun P program = some P := rfl
 simp only [hp, Option.bind_some, hs]
 cases b1 <;> cases b2 <;> simp [pureRun_bind, hf, hg, p1, p2, p3, p4, e1, e2, pr_pure]
theorem q_eqN {x : Option QRes} {ty : TypeId} {ox oy : Operand} {a b : Array Value} {c : Bool} (h : x = qBin P .eql ty ox oy (.agg a) (.agg b)) (hk : cmpKeys P .eql ty (.agg a) (.agg b) = none) (hfl : [Value.agg a, .agg b].all isFlat = true)
 (hg : pureRun P (eqGuard .eql ty ox oy (.agg a) (.agg b)) = some ()) (he : pureRun P (Op.equal ty (.agg a) (.agg b)) = some c) : x = some { val := .bool c } := by
 rw [h]
 unfold qBin
 simp only [hk]
 unfold flatRun
 rw [if_pos hfl]
 have e : pureRun P (do eqGuard .eql ty ox oy (.agg a) (.agg b); binOp .eql ty (.agg a) (.agg b)) = some (.bool c) := by
  rw [pureRun_bind, hg]
  show pureRun P (Value.bool <$> Op.equal ty (.agg a) (.agg b)) = _
  rw [pr_map, he]
  rfl
 rw [e]
 rfl
def structOf (P : Program) (t : TypeId) : Array Field := match P.underlying t with | some (.struct fs) => fs | _ => #[]
end
end Go.Cl
namespace Go.Proofs.Ytiaippkjgmccoaa
open Go Go.Cl
theorem eq50 {d : Nat} {a a' : Int} {b b' : Bool} : pureRun Try.prog (Op.equalIn (d + 2) 50 (ag [iv a, .bool b]) (ag [iv a', .bool b'])) = some ((a == a') && ((b == b') && true)) :=
 pr_struct2 (f := ((structOf Try.prog 50).getD 0 default)) (g := ((structOf Try.prog 50).getD 1 default)) (x1 := iv a) (y1 := iv a') (x2 := .bool b) (y2 := .bool b') (by kernel_rfl) (by kernel_rfl) (by decide +kernel) (by decide +kernel) (by kernel_rfl) (by kernel_rfl) (by kernel_rfl) (by kernel_rfl) (by kernel_rfl) (by kernel_rfl)
theorem q_eq86 {x : Option QRes} {ox oy : Operand} {a c a' c' : Int} {b d b' d' : Bool} (h : x = qBin Try.prog .eql 86 ox oy (ag [iv a, .bool b, iv c, .bool d]) (ag [iv a', .bool b', iv c', .bool d'])) :
 x = some { val := .bool (((a == a') && ((b == b') && true)) && (((c == c') && ((d == d') && true)) && true)) } :=
 q_eqN h (by kernel_rfl) (by kernel_rfl) (by kernel_rfl) (pr_struct2 (d := 9999) (f := ((structOf Try.prog 86).getD 0 default)) (g := ((structOf Try.prog 86).getD 1 default)) (x1 := ag [iv a, .bool b]) (y1 := ag [iv a', .bool b']) (x2 := ag [iv c, .bool d]) (y2 := ag [iv c', .bool d']) (by kernel_rfl) (by kernel_rfl) (by decide +kernel) (by decide +kernel) (by kernel_rfl) (by kernel_rfl) eq50 (by kernel_rfl) (by kernel_rfl) eq50)
end Go.Proofs.Ytiaippkjgmccoaa
