/- Roots of squares: what the functions answer at the arguments that the statement comes to, each reckoned by one run. -/
import Derived.Test.YtfebcljpgcahbaaGreatW2
set_option linter.unusedVariables false
set_option maxRecDepth 100000
namespace Go.Proofs.YtfebcljpgcahbaaGreat
open Go Go.Cl
def e50 (x : (Int × Int)) : List Value := [.int .i64 x.1, .int .i64 x.2]
def e52 (x : (Int × Int × Int)) : List Value := [.int .i64 x.1, .int .i64 x.2.1, .int .i64 x.2.2]
def e72 (x : (Int × Int)) : List Value := [.int .i64 x.1, .int .i64 x.2]
def tupV (vs : List Value) : Value := .tuple ⟨vs⟩
def V18 (b : Nat) (r : List (Int × Int) × Int) : Value := .tuple ⟨[accV (b + 0) r.1.length, iv r.2]⟩
def N18 (b : Nat) (r : List (Int × Int) × Int) : List Blk := [ab 50 e50 r.1]
def V19 (b : Nat) (r : List (Int × Int) × Int) : Value := .tuple ⟨[accV (b + 0) r.1.length, iv r.2]⟩
def N19 (b : Nat) (r : List (Int × Int) × Int) : List Blk := [ab 72 e72 r.1]
def V20 (b : Nat) (r : Int × Int × Int) : Value := .tuple ⟨[iv r.1, iv r.2.1, iv r.2.2]⟩
def N20 (b : Nat) (r : Int × Int × Int) : List Blk := []
def V21 (b : Nat) (r : Int × Int) : Value := .tuple ⟨[iv r.1, iv r.2]⟩
def N21 (b : Nat) (r : Int × Int) : List Blk := []
def flo (u n : Nat) : Nat := ((List.range 720).filter fun k => Nat.ble (k * k) (n * u)).length - 1
def ceil (u n : Nat) : Nat := if flo u n * flo u n = n * u then flo u n else flo u n + 1
def Ns : List Nat := [1, 2, 4, 5, 8, 9, 10, 13, 16, 17, 18, 20, 25, 26, 29, 32, 34, 41, 50]
def poly (n : Nat) : List Int := [-(n : Int), 0, 1]
def a19 (n : Nat) : List (Int × Int) × Int := ([(-(flo 10000 n : Int), 1), ((ceil 10000 n : Int), 1)], 0)
def a20 (n : Nat) : Int × Int × Int := ((flo 10000 n : Int), (ceil 10000 n : Int), 0)
def a21 (n u : Nat) : Int × Int := (if u * u = n then 0 else if u * u < n then -1 else 1, 0)
def a22 (n : Nat) : Int × Int := (if flo 1 n = ceil 1 n then 0 else 1, 0)
def q19 (n : Nat) : Cl.Entry := ⟨19, [sv 0 3 ANY], [ab 3 e3 (poly n)], V19 1 (a19 n), N19 1 (a19 n)⟩
def q20 (n : Nat) : Cl.Entry := ⟨20, [iv ((n * 10000 : Nat) : Int)], [], V20 0 (a20 n), N20 0 (a20 n)⟩
def q21 (n u : Nat) : Cl.Entry := ⟨21, [sv 0 3 ANY, ag [iv (u : Int), iv 1]], [ab 3 e3 (poly n)], V21 1 (a21 n u), N21 1 (a21 n u)⟩
def q22 (n : Nat) : Cl.Entry := ⟨22, [sv 0 3 ANY, ag [iv (flo 1 n : Int), iv 1], ag [iv (ceil 1 n : Int), iv 1]], [ab 3 e3 (poly n)], V21 1 (a22 n), N21 1 (a22 n)⟩
def x18 (x y : Nat) : List (Int × Int) := [((x : Int), (x : Int)), ((y : Int), (y : Int)), (0, 10000)]
def a18 (x y : Nat) : List (Int × Int) × Int := ([((x * x : Nat), (x * x : Nat)), ((y * y : Nat), (y * y : Nat)), ((x * x + y * y : Nat), (x * x + y * y : Nat))], 0)
def a11 (x y : Nat) : List (Int × Int) × Int := ([((x : Int), (x : Int)), ((y : Int), (y : Int)), ((flo 1 (x * x + y * y) : Int), (ceil 1 (x * x + y * y) : Int))], 0)
def q18 (x y : Nat) : Cl.Entry := ⟨18, [ag [sv 0 3 ANY, sv 1 1 ANY]], [ab 50 e50 (x18 x y), ab 52 e52 [(0, 1, 2)]], V18 2 (a18 x y), N18 2 (a18 x y)⟩
def q11 (x y : Nat) : Cl.Entry := ⟨11, [ag [sv 0 3 ANY, sv 1 1 ANY]], [ab 50 e50 (x18 x y), ab 52 e52 [(0, 1, 2)]], V18 2 (a11 x y), N18 2 (a11 x y)⟩
namespace worked
noncomputable def envS : Env := { env0 with sum := sumT [] }
theorem okS : SumOk envS := sumT_ok rfl rfl (fun e he => by cases he)
noncomputable def says (E : Env) (e : Cl.Entry) : Bool := Cl.gives ((Cl.run E 3000).pcall e.g e.args e.h) e.v e.new
end worked
end Go.Proofs.YtfebcljpgcahbaaGreat
