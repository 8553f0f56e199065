/- How many parts, and the waves as lists. -/
import Derived.Test.YtdekbjfjbbdjgaaLWa
set_option linter.unusedVariables false
namespace Go.Cl
end Go.Cl
namespace Go.Proofs.Ytdekbjfjbbdjgaa.plain
open Go Go.Cl
section
variable {S M : Int} {rd : List (Int × Int)} {out : Out} {P W : List Int} (B : Both S M rd out P W)
include B
theorem Both.keys_perm : (keys out).Perm ((List.range (S + M).toNat).map fun i : Nat => nd S (i : Int)) := by
 have hs := B.h.s
 have hm := B.h.m
 refine (List.perm_ext_iff_of_nodup B.knd ?_).2 fun x => ?_
 · rw [List.Nodup, List.pairwise_map]
   refine List.Pairwise.imp (fun {a b} hab => ?_) (List.nodup_range (n := (S + M).toNat))
   intro e
   have : ix S (nd S (a : Int)) = ix S (nd S (b : Int)) := congrArg _ e
   rw [ix_nd, ix_nd] at this
   omega
 constructor
 · intro hx
   have hv := B.ks x (fun e => (mget_none.1 e) hx)
   have hi := ix_in hv (by omega) (by omega)
   refine List.mem_map.2 ⟨(ix S x).toNat, List.mem_range.2 (by omega), ?_⟩
   rw [show (((ix S x).toNat : Nat) : Int) = ix S x by omega]
   exact nd_ix hv (by omega)
 intro hx
 obtain ⟨i, hi, rfl⟩ := List.mem_map.1 hx
 have := List.mem_range.1 hi
 obtain ⟨q, a, b⟩ := B.val (i : Int) (by omega) (by omega)
 exact Classical.byContradiction fun hn => by rw [mget_none.2 hn] at a; cases a
theorem Both.out_len : (out.length : Int) = S + M := by
 have hs := B.h.s
 have hm := B.h.m
 have := B.keys_perm.length_eq
 simp only [keys, List.length_map, List.length_range] at this
 omega
section
variable (g : Good (edges S M rd) (at0 W))
include g
end
end
end Go.Proofs.Ytdekbjfjbbdjgaa.plain
