/- slices.SortFunc of less than 73 elements. -/
import Derived.Test.YthpfffijnkmdgaaXP
set_option linter.unusedVariables false
set_option linter.unusedSimpArgs false
set_option maxRecDepth 100000
set_option maxHeartbeats 4000000
namespace Go.Proofs.Ythpfffijnkmdgaa
open Go Go.Cl
def bl (n : Nat) : Nat := if n < 1 then 0 else if n < 2 then 1 else if n < 4 then 2 else if n < 8 then 3 else if n < 16 then 4 else if n < 32 then 5 else if n < 64 then 6 else 7
noncomputable def c92 : Code := Try.f92.code
noncomputable def env92 : Cl.Env := { P := Pg, sum := fun _ => none, imp := fun _ => false, strict := true }
theorem conv92 {k : Nat} (hk : k < 73) : qConvert Pg 3 141 (.int .i64 k) = some { val := .int .u64 k } :=
 ofMap (f := fun k : Nat => qConvert Pg 3 141 (.int .i64 k)) (g := fun k : Nat => some { val := .int .u64 k }) (n := 73) (by kernel_rfl) hk
theorem lenb92 {k : Nat} (hk : k < 73) : PureSim Pg 95 [.int .u64 k] [] (.int .i64 (bl k)) [] :=
 answer (Cl.sumOk_none fun _ => rfl) mixed (ofMap (f := fun k : Nat => (run env92 3000).pcall 95 [.int .u64 k] []) (g := fun k : Nat => some (.int .i64 (bl k), [])) (n := 73) (by kernel_rfl) hk)
theorem C92 (l : List I2) (k : Nat) (hl : l.length = k) (hk : k < 73) (r : List I2) (hF : F99 100 l 0 k (bl k) = some r) :
 ImpSim Pg 92 [anyV 0 k, fn 87] 0 [lb101 l] (.tuple #[]) [lb101 r] := by
 have hLN := lenb92 hk
 have hPQ := C99 100 l k hl 0 k (bl k) r hF
 have hcv := conv92 hk
 generalize lb101 l = b at hPQ ⊢
 generalize lb101 r = b' at hPQ ⊢
 refine ImpSim.of_TS (fn := Try.f92) (c := c92) (by kernel_rfl) (by kernel_rfl) (by kernel_rfl) (Nat.le_refl _) ?_
 refine TS.weak (a2 := st 14 [(0, anyV 0 k), (1, fn 87)]) (h2 := [b])
  (Eq.mp (by kernel_rfl) (Wk.tm (P := Pg) (base := 0) (L := 1) (a := { tmps := [anyV 0 k, fn 87] ++ List.replicate 12 undef }) (h := [b]) [0, 1])) ?_
 refine TS.start ?_
 refine TS.seq' (x := c92.s1) (y := c92.s2) (by kernel_rfl) ?_
 refine TS.region' (id := 0) (b := false) (ops := c92.s1.rops) (by kernel_rfl) rfl ?_
 refine TI.val [0, 1, 5] (v := anyV 0 k) (a2 := st 14 [(0, anyV 0 k), (1, fn 87), (5, anyV 0 k)]) (by kernel_rfl) (by kernel_rfl) ?_
 refine TI.val [0, 1, 6] (v := .int .i64 k) (a2 := st 14 [(0, anyV 0 k), (1, fn 87), (6, .int .i64 k)]) (by kernel_rfl) (by kernel_rfl) ?_
 refine TI.val [0, 1, 4] (v := .int .i64 k) (a2 := st 14 [(0, anyV 0 k), (1, fn 87), (4, .int .i64 k)]) (by kernel_rfl) (by kernel_rfl) ?_
 refine TI.done (by kernel_rfl) ?_
 refine NX.sq ?_
 refine TS.region' (id := 1) (b := false) (ops := c92.s2.rops) (by kernel_rfl) rfl ?_
 refine TI.val [1, 4, 7] (v := anyV 0 k) (a2 := st 14 [(1, fn 87), (4, .int .i64 k), (7, anyV 0 k)]) (by kernel_rfl) (by kernel_rfl) ?_
 refine TI.val [1, 4, 7, 8] (v := .int .i64 k) (a2 := st 14 [(1, fn 87), (4, .int .i64 k), (7, anyV 0 k), (8, .int .i64 k)]) (by kernel_rfl) (by kernel_rfl) ?_
 refine TI.val [1, 7, 8, 9] (v := .int .i64 k) (a2 := st 14 [(1, fn 87), (7, anyV 0 k), (8, .int .i64 k), (9, .int .i64 k)]) (by kernel_rfl) (by kernel_rfl) ?_
 refine TI.val [1, 7, 8, 10] (v := .int .u64 k) (a2 := st 14 [(1, fn 87), (7, anyV 0 k), (8, .int .i64 k), (10, .int .u64 k)]) (Eq.trans (b := qConvert Pg 3 141 (.int .i64 k)) (by kernel_rfl) hcv) (by kernel_rfl) ?_
 refine TI.pcall [1, 7, 8, 11] (g := 95) (args := [.int .u64 k]) (v := .int .i64 (bl k)) (a2 := st 14 [(1, fn 87), (7, anyV 0 k), (8, .int .i64 k), (11, .int .i64 (bl k))]) (by kernel_rfl) (PureSim.any hLN (flatL (by rfl)) rfl _) (by kernel_rfl) ?_
 refine TI.val [7, 8, 11, 12] (v := fn 87) (a2 := st 14 [(7, anyV 0 k), (8, .int .i64 k), (11, .int .i64 (bl k)), (12, fn 87)]) (by kernel_rfl) (by kernel_rfl) ?_
 refine TI.icallT [] (a2 := st 14 []) (by kernel_rfl) hPQ (by kernel_rfl) ?_
 refine TI.done (by kernel_rfl) ?_
 exact ⟨.inl rfl, rfl, rfl, by kernel_rfl⟩
theorem C92nil : PureSim Pg 92 [.slice none 0 0, fn 87] [] (.tuple #[]) [] :=
 answer (E := env92) (Cl.sumOk_none fun _ => rfl) mixed (n := 3000) (by kernel_rfl)
def sort92 (l : List I2) : Option (List I2) := if List.length l < 73 then F99 100 l 0 (List.length l) (bl (List.length l)) >>= fun r => if List.length r = List.length l then some r else none else none
theorem sort92_F {l r : List I2} (h : sort92 l = some r) : F99 100 l 0 (List.length l) (bl (List.length l)) = some r ∧ List.length r = List.length l ∧ List.length l < 73 := by
 unfold sort92 at h
 split at h
 · obtain ⟨m, hm, h⟩ := of_do h
   split at h
   · cases h
     exact ⟨hm, by assumption, by assumption⟩
   cases h
 cases h
theorem sort92_len {l r : List I2} (h : sort92 l = some r) : List.length r = List.length l := (sort92_F h).2.1
theorem TI.sort92 {base L j k : Nat} {ops : Array Oper} {a a2 : CAct} {h h1 h2 : List Blk} {Ψ : CAct → List Blk → Prop} {l r : List I2} (hs : sort92 l = some r)
 (hc : callAt ops j a = some (92, [accV k (List.length l), fn 87])) (hb : h[k]? = some (accB 101 (List.length l) (List.flatMap e101 l))) (hk : base ≤ k)
 (hset : h.set k (accB 101 (List.length r) (List.flatMap e101 r)) = h1) (keep keepH : List Nat) (hm : mk2 keep keepH (putAt ops j a (.tuple ⟨[]⟩), h1) = (a2, h2)) (ht : TI Pg base L ops (j + 1) a2 h2 Ψ) :
 TI Pg base L ops j a h Ψ := by
 have hl := sort92_len hs
 by_cases h0 : List.length l = 0
 · have hr : r = [] := List.eq_nil_of_length_eq_zero (by omega)
   have hl' : l = [] := List.eq_nil_of_length_eq_zero h0
   subst hr; subst hl'
   have hbd : h[k]? = some .dead := hb
   have hsd : h.set k (accB 101 0 []) = h := set_dead hbd
   refine TI.callM (v := .tuple ⟨[]⟩) (new := []) hc (PureSim.ren (hc := []) (fun _ => (0, 0)) C92nil (.nil _) (.cons (.flat rfl) (.cons (Rn.func' .nil .nil) .nil)) (.flat rfl) newflat_nil) keep keepH ?_ ht
   rw [List.append_nil, ← hm, ← hset]
   exact congrArg (fun x => mk2 keep keepH (putAt ops j a (.tuple ⟨[]⟩), x)) hsd.symm
 have hle := (sort92_F hs).2.2
 have hF := (sort92_F hs).1
 have e1 : accB 101 (List.length l) (List.flatMap e101 l) = lb101 l := by unfold accB; rw [if_neg h0]
 have e2 : accB 101 (List.length r) (List.flatMap e101 r) = lb101 r := by unfold accB; rw [if_neg (by omega)]
 rw [e1] at hb
 rw [e2] at hset
 refine TI.icallM hc (ImpSim.frame (ro := []) (wr := [lb101 l]) (wr' := [lb101 r]) (n := 1) (h := h) (fun _ => (k, 0)) (C92 l _ rfl hle r hF) rfl rfl (.cons (.inr ⟨lb101 l, hb, .list (fun _ => rfl)⟩) (.nil _)) (fun j h1 h2 => ⟨hk, rfl, fun i hi _ => by omega⟩) (by simp only [List.all_cons, List.all_nil, Bool.and_true]; exact e101_flat l) (by simp only [List.all_cons, List.all_nil, Bool.and_true]; exact e101_flat r)
  (.cons (Rn.accA (i' := k) Nat.one_pos rfl) (.cons (Rn.func' .nil .nil) .nil)) rfl) keep keepH ?_ ht
 subst hset; exact hm
end Go.Proofs.Ythpfffijnkmdgaa
