/- solve's parts and waves are the record's. -/
import Derived.Test.YtdekbjfjbbdjgaaLW3
set_option linter.unusedVariables false
namespace Go.Proofs.Ytdekbjfjbbdjgaa.plain
open Go Go.Cl
section
variable {S M : Int} {rd : List (Int × Int)}
def nd (S i : Int) : Nd := if i < S then (0, i) else (1, i - S)
def edges (S M : Int) (rd : List (Int × Int)) : Edges := rd.map fun y => (Int.tmod y.1 S, S + Int.tmod y.1 M, y.2)
def pl (S : Int) (out : Out) (i : Int) : Pl := (mget out (nd S i)).getD ((0, 0), 0, 0, (0, 0))
def partOf (S : Int) (out : Out) (i : Int) : Int := ix S (pl S out i).1
def waveOf (S : Int) (out : Out) (i : Int) : Int := (pl S out i).2.1
theorem VN.nd {i : Int} (h0 : 0 ≤ i) (hn : i < S + M) : VN S M (nd S i) := by
 unfold plain.nd
 split
 · exact .inl ⟨rfl, h0, by dsimp only; omega⟩
 exact .inr ⟨rfl, by dsimp only; omega, by dsimp only; omega⟩
theorem ix_nd {i : Int} : ix S (nd S i) = i := by
 unfold nd ix
 split
 · rfl
 rw [if_neg (show ¬ (1 : Int) = 0 by decide)]; dsimp only; omega
theorem nd_ix {x : Nd} (h : VN S M x) (hS : 0 ≤ S) : nd S (ix S x) = x := by
 rcases h with ⟨e, a, b⟩ | ⟨e, a, b⟩
 · have : ix S x = x.2 := if_pos e
   rw [this, nd, if_pos b]; exact Prod.ext e.symm rfl
 have : ix S x = S + x.2 := if_neg (by omega)
 rw [this, nd, if_neg (by omega)]
 exact Prod.ext e.symm (by dsimp only; omega)
theorem ix_in {x : Nd} (h : VN S M x) (hS : 0 ≤ S) (hM : 0 ≤ M) : 0 ≤ ix S x ∧ ix S x < S + M := by
 rcases h with ⟨e, a, b⟩ | ⟨e, a, b⟩
 · have : ix S x = x.2 := if_pos e
   omega
 have : ix S x = S + x.2 := if_neg (by omega)
 omega
theorem sg_nd {i : Int} : sg S i = sp (nd S i) := by
 unfold sg sp nd
 split
 · rfl
 rfl
theorem edges_ends (h : Rec0 S M rd) : Ends (S + M) S (edges S M rd) := by
 intro e he
 obtain ⟨y, hy, rfl⟩ := List.mem_map.1 he
 have a := tmod_in (h.hour y hy).1 h.s.1
 have b := tmod_in (h.hour y hy).1 h.m.1
 dsimp only
 omega
theorem nd_a (h : Rec0 S M rd) {y : Int × Int} (hy : y ∈ rd) : nd S (Int.tmod y.1 S) = nda S y := if_pos (tmod_in (h.hour y hy).1 h.s.1).2
theorem nd_b (h : Rec0 S M rd) {y : Int × Int} (hy : y ∈ rd) : nd S (S + Int.tmod y.1 M) = ndb M y := by
 have := tmod_in (h.hour y hy).1 h.m.1
 rw [nd, if_neg (by omega)]
 exact Prod.ext rfl (by dsimp only [ndb]; omega)
theorem solveSol (h : Rec0 S M rd) : ∃ out, F49 S M rd = some out ∧ Sol (S + M) S (edges S M rd) (partOf S out) (waveOf S out) ∧
 (∀ i, 0 ≤ i → i < S + M → -60000000 ≤ waveOf S out i ∧ waveOf S out i ≤ 60000000) ∧ (∀ i, 0 ≤ i → i < S + M → ∃ q, mget out (nd S i) = some q ∧ VN S M q.1) ∧ (keys out).Nodup ∧ ∀ x, mget out x ≠ none → VN S M x := by
 have hs := h.s
 have hm := h.m
 obtain ⟨out, opn, e, I, hc⟩ := solveOk h
 have P : ∀ i, 0 ≤ i → i < S + M → ∃ qr, Placed S M rd out opn (nd S i) (pl S out i) qr := fun i h0 hn => by
  obtain ⟨q, qr, P⟩ := I.cl _ (VN.nd h0 hn) (hc _ (VN.nd h0 hn))
  have : pl S out i = q := by rw [pl, P.at_]; rfl
  exact ⟨qr, this ▸ P⟩
 have root : ∀ i, 0 ≤ i → i < S + M → 0 ≤ partOf S out i ∧ partOf S out i < S + M ∧ nd S (partOf S out i) = (pl S out i).1 := fun i h0 hn => by
  obtain ⟨qr, p⟩ := P i h0 hn
  have := ix_in p.val (by omega) (by omega)
  exact ⟨this.1, this.2, nd_ix p.val (by omega)⟩
 refine ⟨out, e, ⟨fun f hf => ?_, fun i h0 hn => ?_, fun i h0 hn => ?_, fun i h0 hn => ?_, fun w hw i h0 hn => ?_, fun c hw i h0 hn => ?_⟩, fun i h0 hn => ?_, fun i h0 hn => ?_, I.nd, I.ks⟩
 · obtain ⟨y, hy, rfl⟩ := List.mem_map.1 hf
   obtain ⟨va, vb⟩ := h.ends y hy
   obtain ⟨q, _, p⟩ := I.cl _ va (hc _ va)
   obtain ⟨r, _, p'⟩ := I.cl _ vb (hc _ vb)
   have := I.edge y hy (hc _ va) q r p.at_ p'.at_
   unfold partOf pl
   dsimp only
   rw [nd_a h hy, nd_b h hy, p.at_, p'.at_]
   exact congrArg (ix S) this
 · obtain ⟨qr, p⟩ := P i h0 hn
   have := p.le
   rw [ix_nd] at this
   exact ⟨(root i h0 hn).1, this⟩
 · obtain ⟨qr, p⟩ := P i h0 hn
   have : pl S out (partOf S out i) = qr := by rw [pl, (root i h0 hn).2.2, p.root]; rfl
   show ix S (pl S out (partOf S out i)).1 = _
   rw [this, p.idem]; rfl
 · obtain ⟨qr, p⟩ := P i h0 hn
   have : pl S out (partOf S out i) = qr := by rw [pl, (root i h0 hn).2.2, p.root]; rfl
   show (pl S out (partOf S out i)).2.1 = 0
   rw [this]; exact p.zero
 · obtain ⟨qr, p⟩ := P i h0 hn
   have := p.det (fun x => w (ix S x)) (fun y hy => by
    have := hw _ (List.mem_map_of_mem (f := fun y : Int × Int => (Int.tmod y.1 S, S + Int.tmod y.1 M, y.2)) hy)
    exact this)
   rw [ix_nd] at this
   rw [sg_nd, sg_nd, (root i h0 hn).2.2, Int.mul_assoc]
   exact this
 · obtain ⟨qr, p⟩ := P i h0 hn
   have := p.conn (fun x => c (ix S x)) (fun y hy => by
    have := hw _ (List.mem_map_of_mem (f := fun y : Int × Int => (Int.tmod y.1 S, S + Int.tmod y.1 M, y.2)) hy)
    exact this)
   rw [ix_nd] at this
   exact this
 · obtain ⟨qr, p⟩ := P i h0 hn
   exact ⟨p.lo, p.hi⟩
 obtain ⟨qr, p⟩ := P i h0 hn
 exact ⟨_, p.at_, p.val⟩
end
end Go.Proofs.Ytdekbjfjbbdjgaa.plain
