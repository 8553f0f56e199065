/- Chains that prove that a book is not possible. -/
import Derived.Test.YtiaippkjgmccoaaLK5
import Derived.Test.YtiaippkjgmccoaaKP
set_option linter.unusedVariables false
namespace Go.Proofs.Ytiaippkjgmccoaa.plain
open Go Go.Cl
section
variable {T : Int} {rs : Rules} {l : List Case}
theorem ver_ok (h : ver T rs l = 0) : 1 ≤ l.length ∧ l.length ≤ 100 := by
 unfold ver at h
 split at h
 · exact absurd h (by assumption)
 split at h
 · exact absurd h (by decide)
 split at h
 · exact absurd h (by decide)
 omega
theorem proves_eq (hrs : rs.length ≤ 1000) {a b : List Case} (ha : a.length ≤ 1000) (hb : b.length ≤ 1000) : F34 T rs a b = F35 T rs a b ∧ ∃ e, F35 T rs a b = some e := by
 unfold F34 F35
 rw [F30_eq hrs ha, F30_eq hrs hb, F31_eq hrs ha, F31_eq hrs hb]
 simp only [Option.bind_eq_bind, Option.bind_some]
 by_cases h1 : ver T rs a = 0
 · obtain ⟨a1, a2⟩ := ver_ok h1
   have wa : w64 ((a.length : Int) - 1) = ((a.length - 1 : Nat) : Int) := by rw [w64_in (by omega) (by omega)]; omega
   simp only [h1, bne_self_eq_false, beq_self_eq_true, Bool.false_eq_true, if_true, if_false, Option.bind_some]
   by_cases h2 : ver T rs b = 0
   · obtain ⟨b1, b2⟩ := ver_ok h2
     have wb : w64 ((b.length : Int) - 1) = ((b.length - 1 : Nat) : Int) := by rw [w64_in (by omega) (by omega)]; omega
     simp only [h2, bne_self_eq_false, Bool.false_eq_true, if_false]
     refine ⟨by first | trivial | rfl, ?_⟩
     have c1 : (0 : Int) ≤ 0 ∧ (0 : Int) < (a.length : Int) := ⟨by omega, by omega⟩
     have c2 : (0 : Int) ≤ ((a.length - 1 : Nat) : Int) ∧ ((a.length - 1 : Nat) : Int) < (a.length : Int) := ⟨by omega, by omega⟩
     have c3 : (0 : Int) ≤ 0 ∧ (0 : Int) < (b.length : Int) := ⟨by omega, by omega⟩
     have c4 : (0 : Int) ≤ ((b.length - 1 : Nat) : Int) ∧ ((b.length - 1 : Nat) : Int) < (b.length : Int) := ⟨by omega, by omega⟩
     rw [wa, wb, if_pos c1, if_pos c2, if_pos c3, if_pos c4, F76_eq]
     simp only [Option.bind_some, eq_code]
     generalize decide (a.getD (Int.toNat ((a.length - 1 : Nat) : Int)) (0, false) = ctr (a.getD (Int.toNat 0) (0, false))) = k1
     generalize decide (b.getD (Int.toNat 0) (0, false) = a.getD (Int.toNat ((a.length - 1 : Nat) : Int)) (0, false)) = k2
     generalize decide (b.getD (Int.toNat ((b.length - 1 : Nat) : Int)) (0, false) = a.getD (Int.toNat 0) (0, false)) = k3
     cases k1 <;> cases k2 <;> cases k3 <;> exact ⟨_, rfl⟩
   have : (ver T rs b != 0) = true := by simpa using h2
   simp only [this, if_true]
   exact ⟨by first | trivial | rfl, _, rfl⟩
 have e1 : (ver T rs a != 0) = true := by simpa using h1
 have e2 : (ver T rs a == 0) = false := by simpa using h1
 simp only [e1, e2, Bool.false_eq_true, if_true, if_false, Option.bind_some]
 exact ⟨by first | trivial | rfl, _, rfl⟩
theorem proves_ok (hrs : rs.length ≤ 1000) {a b : List Case} (h1 : ver T rs a = 0) (h2 : ver T rs b = 0) {c : Case} (x1 : at_ a 0 = c) (x2 : at_ a (a.length - 1) = ctr c) (x3 : at_ b 0 = ctr c) (x4 : at_ b (b.length - 1) = c) : F35 T rs a b = some 0 := by
 obtain ⟨a1, a2⟩ := ver_ok h1
 obtain ⟨b1, b2⟩ := ver_ok h2
 have wa : w64 ((a.length : Int) - 1) = ((a.length - 1 : Nat) : Int) := by rw [w64_in (by omega) (by omega)]; omega
 have wb : w64 ((b.length : Int) - 1) = ((b.length - 1 : Nat) : Int) := by rw [w64_in (by omega) (by omega)]; omega
 have c1 : (0 : Int) ≤ 0 ∧ (0 : Int) < (a.length : Int) := ⟨by omega, by omega⟩
 have c2 : (0 : Int) ≤ ((a.length - 1 : Nat) : Int) ∧ ((a.length - 1 : Nat) : Int) < (a.length : Int) := ⟨by omega, by omega⟩
 have c3 : (0 : Int) ≤ 0 ∧ (0 : Int) < (b.length : Int) := ⟨by omega, by omega⟩
 have c4 : (0 : Int) ≤ ((b.length - 1 : Nat) : Int) ∧ ((b.length - 1 : Nat) : Int) < (b.length : Int) := ⟨by omega, by omega⟩
 unfold F35
 rw [F31_eq hrs (by omega), F31_eq hrs (by omega), h1, h2]
 simp only [Option.bind_eq_bind, Option.bind_some, bne_self_eq_false, beq_self_eq_true, Bool.false_eq_true, if_true, if_false]
 rw [wa, wb, if_pos c1, if_pos c2, if_pos c3, if_pos c4, F76_eq]
 simp only [Option.bind_some, eq_code]
 rw [show a.getD (Int.toNat 0) (0, false) = c from x1, show a.getD (Int.toNat ((a.length - 1 : Nat) : Int)) (0, false) = ctr c from x2, show b.getD (Int.toNat 0) (0, false) = ctr c from x3, show b.getD (Int.toNat ((b.length - 1 : Nat) : Int)) (0, false) = c from x4]
 simp
open Classical in
theorem F33_eq (hrs : rs.length ≤ 1000) : F33 T rs = some (if chk T rs ≠ 0 then chk T rs else if wr rs then 0 else 6) := by
 unfold F33
 rw [F27_eq hrs]
 simp only [Option.bind_eq_bind, Option.bind_some]
 by_cases h : chk T rs = 0
 · obtain ⟨t1, t2, t3, hv⟩ := chk_ok h
   have e : ag rs [] = true := ag_iff.2 (agrees_iff.2 fun x hx => by cases hx)
   rw [F60_eq hv (by omega) t2 (by omega) (by simp) (fun y hy => by cases hy), e, h]
   cases wr rs <;> rfl
 have e2 : (chk T rs == 0) = false := by simpa using h
 rw [e2, if_pos h]
 rfl
theorem chain_ok (h : chk T rs = 0) {m0 : Map} {x y : Case} (hx : okC T x) (hr : Reach rs x y) (hy : okC T y) : ∃ m a, F67 1 T rs m0 [x] = some m ∧ F69 T rs m y.1 y.2 = some a ∧ at_ a 0 = x ∧ at_ a (a.length - 1) = y ∧ ver T rs a = 0 := by
 obtain ⟨t1, t2, t3, hv⟩ := chk_ok h
 obtain ⟨m, D, fr, F⟩ := reach_ok (T0 := m0) hv t2 (by omega) (l := [x]) (by simp) (fun c hc => by rw [List.mem_singleton.1 hc]; exact hx)
 obtain ⟨out, fo_, G⟩ := F70_eq hv t2 (by omega) hx
 have hm : met m y := (F.from_ y).2 (from_one.2 hr)
 have ex := exact_ hv hx F G hm
 have hb := G.rng y hy
 obtain ⟨a, fa, a1, a2, a3, a4, a5⟩ := F69_eq F hm (by omega)
 refine ⟨m, a, fr, fa, a2, by rw [a1]; exact a3, ?_⟩
 unfold ver
 rw [if_neg (by simp [h]), if_neg (by omega), if_neg (by omega), if_neg (by rw [inC_iff.2 a5]; simp), if_pos a4]
theorem clash_eq (hrs : rs.length ≤ 1000) : ∃ a b e, F32 T rs = some (a, b, e) ∧ F33 T rs = some e ∧ (e ≠ 0 → a = [] ∧ b = []) ∧ (e = 0 → F35 T rs a b = some 0 ∧ a.length ≤ 1000 ∧ b.length ≤ 1000) := by
 rw [F33_eq hrs]
 unfold F32
 rw [F26_eq hrs]
 simp only [Option.bind_eq_bind, Option.bind_some]
 by_cases h : chk T rs = 0
 · obtain ⟨t1, t2, t3, hv⟩ := chk_ok h
   obtain ⟨c, m, f, hw⟩ := F75_eq hv (by omega) t2 (by omega) []
   simp only [h, bne_self_eq_false, Bool.false_eq_true, if_false, ne_eq, not_true_eq_false]
   rw [f]
   simp only [Option.bind_some]
   cases e : wr rs
   · exact ⟨[], [], 6, rfl, rfl, fun _ => ⟨rfl, rfl⟩, fun e => by cases e⟩
   obtain ⟨k1, k2, k3, k4, k5⟩ := hw e
   obtain ⟨t, i⟩ := c
   dsimp only at k1 k2 k3 k4 k5
   subst k3
   have o1 : okC T ((t, false) : Case) := ⟨k1, k2⟩
   have o2 : okC T ((t, true) : Case) := ⟨k1, k2⟩
   obtain ⟨m1, a, f1, g1, x1, x2, v1⟩ := chain_ok h (m0 := m) o1 k4 o2
   obtain ⟨m2, b, f2, g2, x3, x4, v2⟩ := chain_ok h (m0 := m1) o2 k5 o1
   simp only [Bool.not_true, Bool.false_eq_true, if_false, if_true]
   rw [f1]
   simp only [Option.bind_some]
   rw [show F72 t false = some (t, true) from rfl]
   simp only [Option.bind_some]
   rw [g1]
   simp only [Option.bind_some]
   rw [f2]
   simp only [Option.bind_some]
   rw [g2]
   refine ⟨a, b, 0, rfl, rfl, fun g => absurd rfl g, fun _ => ⟨proves_ok hrs v1 v2 x1 x2 x3 x4, by have := ver_ok v1; omega, by have := ver_ok v2; omega⟩⟩
 have hb : (chk T rs != 0) = true := by simpa using h
 rw [if_pos hb, if_pos h]
 exact ⟨[], [], chk T rs, rfl, rfl, fun _ => ⟨rfl, rfl⟩, fun e => absurd e h⟩
end
end Go.Proofs.Ytiaippkjgmccoaa.plain
