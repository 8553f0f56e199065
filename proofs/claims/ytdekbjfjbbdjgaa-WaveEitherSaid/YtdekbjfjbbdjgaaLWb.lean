/- How many parts, and the waves as lists. -/
import Derived.Test.YtdekbjfjbbdjgaaLWa
set_option linter.unusedVariables false
namespace Go.Cl
theorem mget_mem {α β : Type} [DecidableEq α] {l : List (α × β)} {k : α} {v : β} (hn : (keys l).Nodup) (h : (k, v) ∈ l) : mget l k = some v := by
 induction l with
 | nil => cases h
 | cons p l ih =>
  obtain ⟨a, b⟩ := p
  simp only [keys, List.map_cons, List.nodup_cons] at hn
  rcases List.mem_cons.1 h with e | h
  · cases e; simp [mget]
  have hka : k ≠ a := fun e => hn.1 (e ▸ List.mem_map.2 ⟨(k, v), h, rfl⟩)
  simp only [mget, if_neg hka]
  exact ih hn.2 h
theorem take_snoc {l : List Int} {k : Nat} (h : k < l.length) : l.take k ++ [l.getD k 0] = l.take (k + 1) := by
 rw [List.take_add_one]
 simp [List.getD, h]
end Go.Cl
namespace Go.Proofs.Ytdekbjfjbbdjgaa.plain
open Go Go.Cl
theorem parts_loop (p2 : List (Int × Int)) (o : Out) : ∀ (es : Out) (z : Int), 0 ≤ z → z + es.length ≤ 1000000 → F18l0 p2 o z es = some (z + ((es.countP fun e => decide (e.2.1 = e.1) : Nat) : Int)) := by
 intro es
 induction es with
 | nil => intro z h0 h1; simp [F18l0]
 | cons e es ih =>
  intro z h0 h1
  simp only [List.length_cons] at h1
  rw [F18l0_cons]
  unfold F18r0
  rw [eqN]
  have he : ((e.2.1.1, e.2.1.2) = (e.1.1, e.1.2)) = (e.2.1 = e.1) := rfl
  rw [w64_in (by omega) (by omega)]
  by_cases c : e.2.1 = e.1
  · have c' : decide ((e.2.1.1, e.2.1.2) = (e.1.1, e.1.2)) = true := decide_eq_true c
    rw [c']
    simp only [if_true, Option.bind_eq_bind, Option.bind_some, mapNext]
    rw [ih (z + 1) (by omega) (by omega), List.countP_cons_of_pos (by simpa using c)]
    congr 1; omega
  have c' : decide ((e.2.1.1, e.2.1.2) = (e.1.1, e.1.2)) = false := decide_eq_false c
  rw [c']
  simp only [Bool.false_eq_true, if_false, Option.bind_eq_bind, Option.bind_some, mapNext]
  rw [ih z h0 (by omega), List.countP_cons_of_neg (by simpa using c)]
section
variable {S M : Int} {rd : List (Int × Int)} {out : Out} {P W : List Int} (B : Both S M rd out P W)
include B
theorem Both.keys_perm : (keys out).Perm ((List.range (S + M).toNat).map fun i : Nat => nd S (i : Int)) := by
 have hs := B.h.s
 have hm := B.h.m
 refine (List.perm_ext_iff_of_nodup B.knd ?_).2 fun x => ?_
 · rw [List.Nodup, List.pairwise_map]
   refine List.Pairwise.imp (fun {a b} hab => ?_) (List.nodup_range (n := (S + M).toNat))
   intro e
   have : ix S (nd S (a : Int)) = ix S (nd S (b : Int)) := congrArg _ e
   rw [ix_nd, ix_nd] at this
   omega
 constructor
 · intro hx
   have hv := B.ks x (fun e => (mget_none.1 e) hx)
   have hi := ix_in hv (by omega) (by omega)
   refine List.mem_map.2 ⟨(ix S x).toNat, List.mem_range.2 (by omega), ?_⟩
   rw [show (((ix S x).toNat : Nat) : Int) = ix S x by omega]
   exact nd_ix hv (by omega)
 intro hx
 obtain ⟨i, hi, rfl⟩ := List.mem_map.1 hx
 have := List.mem_range.1 hi
 obtain ⟨q, a, b⟩ := B.val (i : Int) (by omega) (by omega)
 exact Classical.byContradiction fun hn => by rw [mget_none.2 hn] at a; cases a
theorem Both.out_len : (out.length : Int) = S + M := by
 have hs := B.h.s
 have hm := B.h.m
 have := B.keys_perm.length_eq
 simp only [keys, List.length_map, List.length_range] at this
 omega
def firsts (n : Nat) (P : List Int) : Nat := (List.range n).countP fun i : Nat => decide (at0 P (i : Int) = (i : Int))
theorem Both.count_eq : (out.countP fun e => decide (e.2.1 = e.1)) = firsts (S + M).toNat P := by
 have hs := B.h.s
 have hm := B.h.m
 have h1 : (out.countP fun e => decide (e.2.1 = e.1)) = (keys out).countP fun k => decide ((mget out k).map (·.1) = some k) := by
  rw [keys, List.countP_map]
  refine List.countP_congr fun e he => ?_
  have := mget_mem (k := e.1) (v := e.2) B.knd he
  simp only [Function.comp, this, Option.map_some, decide_eq_true_eq, Option.some.injEq]
 rw [h1, B.keys_perm.countP_eq, List.countP_map, firsts]
 refine List.countP_congr fun i hi => ?_
 have hi := List.mem_range.1 hi
 obtain ⟨q, a, b⟩ := B.val (i : Int) (by omega) (by omega)
 have hp : partOf S out (i : Int) = ix S q.1 := by unfold partOf pl; rw [a]; rfl
 rw [← B.so.part_eq B.sr (x := (i : Int)) (by omega) (by omega), hp]
 simp only [Function.comp, a, Option.map_some, decide_eq_true_eq, Option.some.injEq]
 constructor
 · intro e; rw [e, ix_nd]
 intro e; rw [← e]; exact (nd_ix b (by omega)).symm
theorem Both.parts : F18 S M rd = some ((firsts (S + M).toNat P : Int), 0) := by
 have hs := B.h.s
 have hm := B.h.m
 have hl := B.out_len
 unfold F18
 rw [B.co]
 simp only [Option.bind_eq_bind, Option.bind_some, bne_self_eq_false, Bool.false_eq_true, if_false]
 rw [B.fo]
 simp only [Option.bind_some]
 rw [permAll_of (r := (firsts (S + M).toNat P : Int)) fun es he => ?_]
 · rfl
 rw [parts_loop rd out es 0 (Int.le_refl _) (by rw [he.length_eq]; omega), he.countP_eq, B.count_eq, Int.zero_add]
section
variable (g : Good (edges S M rd) (at0 W))
include g
theorem Both.waves0 : ∀ (d : Nat) (v : Int), 0 ≤ v → v + d = S → F16l0 S M rd out v (W.take v.toNat) = some (W.take S.toNat) := by
 have hs := B.h.s
 have hm := B.h.m
 have lw := B.lw
 intro d
 induction d with
 | zero =>
  intro v h0 hd
  rw [F16l0, if_neg (by simp; omega), show v = S by omega]
 | succ d ih =>
  intro v h0 hd
  rw [F16l0, if_pos (by simp; omega)]
  simp only [Option.bind_eq_bind, Option.bind_some]
  rw [if_pos (by rw [List.length_take]; omega), w64_in (by omega) (by omega)]
  have : Option.getD (mget out (0, v)) ((0, 0), 0, 0, (0, 0)) = pl S out v := by
   unfold pl nd
   rw [if_pos (by omega)]
  rw [this, show (pl S out v).2.1 = waveOf S out v from rfl, B.so.wave_eq B.sr g h0 (by omega), show at0 W v = W.getD v.toNat 0 from rfl, take_snoc (by omega), show v.toNat + 1 = (v + 1).toNat by omega]
  exact ih (v + 1) (by omega) (by omega)
theorem Both.waves1 (r : List Int) : ∀ (d : Nat) (v : Int), 0 ≤ v → v + d = M → F16l1 S M rd out r v ((W.drop S.toNat).take v.toNat) = some (W.drop S.toNat) := by
 have hs := B.h.s
 have hm := B.h.m
 have lw := B.lw
 intro d
 induction d with
 | zero =>
  intro v h0 hd
  rw [F16l1, if_neg (by simp; omega), List.take_of_length_le (by rw [List.length_drop]; omega)]
 | succ d ih =>
  intro v h0 hd
  rw [F16l1, if_pos (by simp; omega)]
  simp only [Option.bind_eq_bind, Option.bind_some]
  rw [if_pos (by rw [List.length_take, List.length_drop]; omega), w64_in (by omega) (by omega)]
  have : Option.getD (mget out (1, v)) ((0, 0), 0, 0, (0, 0)) = pl S out (S + v) := by
   unfold pl nd
   rw [if_neg (by omega), show S + v - S = v by omega]
  have hw : at0 W (S + v) = (W.drop S.toNat).getD v.toNat 0 := by
   unfold at0
   simp only [List.getD_eq_getElem?_getD, List.getElem?_drop]
   rw [show (S + v).toNat = S.toNat + v.toNat by omega]
  rw [this, show (pl S out (S + v)).2.1 = waveOf S out (S + v) from rfl, B.so.wave_eq B.sr g (by omega) (by omega), hw, take_snoc (by rw [List.length_drop]; omega), show v.toNat + 1 = (v + 1).toNat by omega]
  exact ih (v + 1) (by omega) (by omega)
end
theorem Both.waves : (Good (edges S M rd) (at0 W) → F16 S M rd = some (W.take S.toNat, W.drop S.toNat, 0)) ∧ (¬ Good (edges S M rd) (at0 W) → F16 S M rd = some ([], [], 13)) := by
 have hs := B.h.s
 have hm := B.h.m
 obtain ⟨k, f, g⟩ := B.fits
 unfold F16
 rw [B.co]
 simp only [Option.bind_eq_bind, Option.bind_some, bne_self_eq_false, Bool.false_eq_true, if_false]
 rw [B.fo]
 simp only [Option.bind_some]
 rw [f]
 simp only [Option.bind_some]
 rcases g with ⟨g1, g2, g3, g4, g5⟩ | ⟨g1, g2, g3, g4, g5, g6, _⟩
 · refine ⟨fun _ => ?_, fun h => absurd g3 h⟩
   rw [if_neg (by simp; omega)]
   have w0 := B.waves0 g3 S.toNat 0 (Int.le_refl _) (by omega)
   have w1 := B.waves1 g3 (W.take S.toNat) M.toNat 0 (Int.le_refl _) (by omega)
   simp only [Int.toNat_zero, List.take_zero] at w0 w1
   rw [w0]
   simp only [Option.bind_some]
   rw [w1]
   rfl
 exact ⟨fun h => absurd h g4, fun _ => by rw [if_pos (by simp; omega)]⟩
end
end Go.Proofs.Ytdekbjfjbbdjgaa.plain
