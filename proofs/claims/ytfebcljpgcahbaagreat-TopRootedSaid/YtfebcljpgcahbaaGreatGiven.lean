/- What the functions answer that the statement calls. -/
import Derived.Test.YtfebcljpgcahbaaGreatW4
import Derived.Test.YtfebcljpgcahbaaGreatW5
import Derived.Test.YtfebcljpgcahbaaGreatW7
set_option linter.unusedVariables false
namespace Go.Proofs.YtfebcljpgcahbaaGreat
open Go Go.Cl
def F17 : Option Bool := some true
def V17 (_ : Nat) (r : Bool) : Value := .bool r
def N17 (_ : Nat) (_ : Bool) : List Blk := []
theorem C17 (r : Bool) (hF : F17 = some r) : PureSim Tryz.prog 17 [] [] (V17 0 r) (N17 0 r) := by
  have hr : true = r := Option.some.inj hF
  subst hr
  exact worked.rooted_ok
theorem found {α β : Type} {l : List α} {q : α → Bool} {f : α → β} {r : β} (h : (l.find? q).map f = some r) : ∃ n ∈ l, q n = true ∧ f n = r := by
  cases hf : l.find? q with
  | none => rw [hf] at h; cases h
  | some n =>
    rw [hf] at h
    exact ⟨n, List.mem_of_find?_eq_some hf, List.find?_some hf, Option.some.inj h⟩
def F18 (p0 : List (Int × Int)) (p1 : List (Int × Int × Int)) : Option (List (Int × Int) × Int) := (worked.pairs.find? fun p => p0 == x18 p.1 p.2 && p1 == [(0, 1, 2)]).map fun p => a18 p.1 p.2
theorem C18 (p0 : List (Int × Int)) (p1 : List (Int × Int × Int)) (r : List (Int × Int) × Int) (hF : F18 p0 p1 = some r) : PureSim Tryz.prog 18 [ag [sv 0 p0.length ANY, sv 1 p1.length ANY]] [ab 50 e50 p0, ab 52 e52 p1] (V18 2 r) (N18 2 r) := by
  obtain ⟨p, hp, hq, rfl⟩ := found hF
  simp only [Bool.and_eq_true, beq_iff_eq] at hq
  obtain ⟨rfl, rfl⟩ := hq
  exact worked.ok18 p hp
def F11 (p0 : List (Int × Int)) (p1 : List (Int × Int × Int)) : Option (List (Int × Int) × Int) := (worked.pairs.find? fun p => p0 == x18 p.1 p.2 && p1 == [(0, 1, 2)]).map fun p => a11 p.1 p.2
def V11 := V18
def N11 := N18
theorem C11 (p0 : List (Int × Int)) (p1 : List (Int × Int × Int)) (r : List (Int × Int) × Int) (hF : F11 p0 p1 = some r) : PureSim Tryz.prog 11 [ag [sv 0 p0.length ANY, sv 1 p1.length ANY]] [ab 50 e50 p0, ab 52 e52 p1] (V11 2 r) (N11 2 r) := by
  obtain ⟨p, hp, hq, rfl⟩ := found hF
  simp only [Bool.and_eq_true, beq_iff_eq] at hq
  obtain ⟨rfl, rfl⟩ := hq
  exact worked.ok11 p hp
theorem ran {e : Cl.Entry} (h : worked.says worked.envS e = true) : PureSim Tryz.prog e.g e.args e.h e.v e.new := entry_ok worked.okS worked.mixed h
def F19 (p0 : List Int) : Option (List (Int × Int) × Int) := (Ns.find? fun n => p0 == poly n).map a19
theorem C19 (p0 : List Int) (r : List (Int × Int) × Int) (hF : F19 p0 = some r) : PureSim Tryz.prog 19 [sv 0 p0.length ANY] [ab 3 e3 p0] (V19 1 r) (N19 1 r) := by
  obtain ⟨n, hn, hq, rfl⟩ := found hF
  obtain rfl := eq_of_beq hq
  exact ran (e := q19 n) (worked.w19 n hn)
def F20 (p0 : Int) : Option (Int × Int × Int) := (Ns.find? fun n => p0 == ((n * 10000 : Nat) : Int)).map a20
theorem C20 (p0 : Int) (r : Int × Int × Int) (hF : F20 p0 = some r) : PureSim Tryz.prog 20 [iv p0] [] (V20 0 r) (N20 0 r) := by
  obtain ⟨n, hn, hq, rfl⟩ := found hF
  obtain rfl := eq_of_beq hq
  exact ran (e := q20 n) (worked.w20 n hn)
def F21 (p0 : List Int) (p1 p2 : Int) : Option (Int × Int) := (Ns.find? fun n => p0 == poly n && p2 == 1 && (p1 == (flo 1 n : Int) || p1 == (ceil 1 n : Int))).map fun n => a21 n p1.toNat
theorem C21 (p0 : List Int) (p1 p2 : Int) (r : Int × Int) (hF : F21 p0 p1 p2 = some r) : PureSim Tryz.prog 21 [sv 0 p0.length ANY, ag [iv p1, iv p2]] [ab 3 e3 p0] (V21 1 r) (N21 1 r) := by
  obtain ⟨n, hn, hq, rfl⟩ := found hF
  simp only [Bool.and_eq_true, Bool.or_eq_true, beq_iff_eq] at hq
  obtain ⟨⟨rfl, rfl⟩, hu⟩ := hq
  have hw := worked.w21 n hn
  rw [Bool.and_eq_true] at hw
  rcases hu with rfl | rfl
  · simp only [Int.toNat_natCast]; exact ran (e := q21 n (flo 1 n)) hw.1
  · simp only [Int.toNat_natCast]; exact ran (e := q21 n (ceil 1 n)) hw.2
def F22 (p0 : List Int) (p1 p2 p3 p4 : Int) : Option (Int × Int) := (Ns.find? fun n => p0 == poly n && p1 == (flo 1 n : Int) && p2 == 1 && p3 == (ceil 1 n : Int) && p4 == 1).map a22
def V22 := V21
def N22 := N21
theorem C22 (p0 : List Int) (p1 p2 p3 p4 : Int) (r : Int × Int) (hF : F22 p0 p1 p2 p3 p4 = some r) : PureSim Tryz.prog 22 [sv 0 p0.length ANY, ag [iv p1, iv p2], ag [iv p3, iv p4]] [ab 3 e3 p0] (V22 1 r) (N22 1 r) := by
  obtain ⟨n, hn, hq, rfl⟩ := found hF
  simp only [Bool.and_eq_true, beq_iff_eq] at hq
  obtain ⟨⟨⟨⟨rfl, rfl⟩, rfl⟩, rfl⟩, rfl⟩ := hq
  exact ran (e := q22 n) (worked.w22 n hn)
end Go.Proofs.YtfebcljpgcahbaaGreat
