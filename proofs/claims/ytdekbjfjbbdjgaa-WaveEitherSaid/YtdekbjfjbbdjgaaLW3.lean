/- solve: all nodes are placed. -/
import Derived.Test.YtdekbjfjbbdjgaaLW2
set_option linter.unusedVariables false
namespace Go.Proofs.Ytdekbjfjbbdjgaa.plain
open Go Go.Cl
section
variable {S M : Int} {rd : List (Int × Int)}
structure Opened (k : Int) (B v : Int) (o : Opn) (base : Opn) : Prop where
 nodup : (keys o).Nodup
 open_ : ∀ x, isO o x ↔ (isO base x ∨ (x.1 = k ∧ 0 ≤ x.2 ∧ x.2 < v))
 len : (o.length : Int) = base.length + v
theorem isO_mput {o : Opn} {k x : Nd} : isO (mput o k true) x ↔ (x = k ∨ isO o x) := by
 unfold isO
 rw [mget_mput]
 by_cases e : x = k
 · simp [e]
 simp [e]
theorem Opened.step {k B v : Int} {o base : Opn} (h : Opened k B v o base) (h0 : 0 ≤ v) (hb : ∀ x, isO base x → x.1 ≠ k) (hbk : ∀ x ∈ keys base, isO base x) (hok : ∀ x ∈ keys o, isO o x) :
 Opened k B (v + 1) (mput o (k, v) true) base ∧ ∀ x ∈ keys (mput o (k, v) true), isO (mput o (k, v) true) x := by
 have hnew : (k, v) ∉ keys o := fun hm => by
  rcases (h.open_ _).1 (hok _ hm) with hx | hx
  · exact hb _ hx rfl
  have := hx.2.2; dsimp only at this; omega
 refine ⟨⟨nodup_mput _ _ h.nodup, fun x => ?_, ?_⟩, fun x hx => ?_⟩
 · rw [isO_mput, h.open_]
   constructor
   · rintro (rfl | hx | hx)
     · exact .inr ⟨rfl, h0, by dsimp only; omega⟩
     · exact .inl hx
     exact .inr ⟨hx.1, hx.2.1, by omega⟩
   rintro (hx | hx)
   · exact .inr (.inl hx)
   by_cases e : x.2 = v
   · exact .inl (Prod.ext hx.1 e)
   exact .inr (.inr ⟨hx.1, hx.2.1, by omega⟩)
 · have e : (mput o (k, v) true).length = (keys (mput o (k, v) true)).length := by simp [keys]
   have e2 : o.length = (keys o).length := by simp [keys]
   have := h.len
   rw [e, keys_mput, if_neg hnew, List.length_append, ← e2]
   simp only [List.length_cons, List.length_nil]
   omega
 rw [keys_mput, if_neg hnew] at hx
 rw [isO_mput]
 rcases List.mem_append.1 hx with hx | hx
 · exact .inr (hok x hx)
 simp at hx; exact .inl hx
theorem l0Ok (hS : S ≤ 30) : ∀ (d : Nat) (v : Int) (o : Opn), 0 ≤ v → v + d = S → Opened 0 S v o [] → (∀ x ∈ keys o, isO o x) → ∃ o', F49l0 S M rd v o = some o' ∧ Opened 0 S S o' [] ∧ ∀ x ∈ keys o', isO o' x := by
 intro d
 induction d with
 | zero =>
  intro v o h0 hd h hk
  refine ⟨o, ?_, by have : v = S := by omega
                    rw [this] at h; exact h, hk⟩
  rw [F49l0, if_neg (by simp; omega)]
 | succ d ih =>
  intro v o h0 hd h hk
  rw [F49l0, if_pos (by simp; omega), w64_in (by omega) (by omega)]
  obtain ⟨h1, h2⟩ := h.step (B := S) h0 (fun x hx => by simp [isO, mget] at hx) (fun x hx => by simp [keys] at hx) hk
  exact ih (v + 1) _ (by omega) (by omega) h1 h2
theorem l1Ok (hM : M ≤ 30) {base : Opn} (hb : ∀ x, isO base x → x.1 ≠ 1) (hbk : ∀ x ∈ keys base, isO base x) : ∀ (d : Nat) (v : Int) (o : Opn), 0 ≤ v → v + d = M → Opened 1 M v o base → (∀ x ∈ keys o, isO o x) →
 ∃ o', F49l1 S M rd v o = some o' ∧ Opened 1 M M o' base := by
 intro d
 induction d with
 | zero =>
  intro v o h0 hd h hk
  refine ⟨o, ?_, by have : v = M := by omega
                    rw [this] at h; exact h⟩
  rw [F49l1, if_neg (by simp; omega)]
 | succ d ih =>
  intro v o h0 hd h hk
  rw [F49l1, if_pos (by simp; omega), w64_in (by omega) (by omega)]
  obtain ⟨h1, h2⟩ := h.step (B := M) h0 hb hbk hk
  exact ih (v + 1) _ (by omega) (by omega) h1 h2
theorem l2Ok (hS : S ≠ 0) (hM : M ≠ 0) (hS30 : S ≤ 30) (hv : ∀ y ∈ rd, -1000000 ≤ y.2 ∧ y.2 ≤ 1000000) (hl : rd.length ≤ 60) (hE : ∀ y ∈ rd, VN S M (nda S y) ∧ VN S M (ndb M y)) :
 ∀ (d : Nat) (v : Int) (o : Opn) (out : Out), 0 ≤ v → v + d = S → Inv S M rd out o → (∀ x, VN S M x → ix S x < v → ¬ isO o x) →
  ∃ o' out', F49l2 S M rd v o out = some (o', out') ∧ Inv S M rd out' o' ∧ ∀ x, VN S M x → ix S x < S → ¬ isO o' x := by
 intro d
 induction d with
 | zero =>
  intro v o out h0 hd I hlow
  refine ⟨o, out, ?_, I, fun x hx hs => hlow x hx (by omega)⟩
  rw [F49l2, if_neg (by simp; omega)]
 | succ d ih =>
  intro v o out h0 hd I hlow
  have one : ∀ x, VN S M x → ix S x < v + 1 → ¬ ix S x < v → x = (0, v) := fun x hx h1 h2 => by
   rcases hx with ⟨e, a, b⟩ | ⟨e, a, b⟩
   · have : ix S x = x.2 := if_pos e
     exact Prod.ext e (by dsimp only; omega)
   have : ix S x = S + x.2 := if_neg (by omega)
   omega
  rw [F49l2, if_pos (by simp; omega), w64_in (by omega) (by omega)]
  simp only [Option.bind_eq_bind, Option.bind_some]
  split
  · rename_i ho
    obtain ⟨out', o', h1, h2, h3, h4⟩ := I.visit hS hM hv hl hE (n := (0, v)) (b := -1) (f := (0, v)) ho (fun x hx hlt => hlow x hx hlt)
    have e : F61 64 0 v 0 v 0 (-1) 0 v out o S M rd = some (out', o') := h1
    rw [e]
    refine ih (v + 1) o' out' (by omega) (by omega) h2 fun x hx hlt => ?_
    by_cases hl2 : ix S x < v
    · exact fun a => hlow x hx hl2 (h4 x a)
    rw [one x hx hlt hl2]; exact h3
  rename_i ho
  refine ih (v + 1) o out (by omega) (by omega) I fun x hx hlt => ?_
  by_cases hl2 : ix S x < v
  · exact hlow x hx hl2
  rw [one x hx hlt hl2]; exact ho
theorem l3Ok (hS : S ≠ 0) (hS0 : 0 ≤ S) (hM : M ≠ 0) (hM30 : M ≤ 30) (hv : ∀ y ∈ rd, -1000000 ≤ y.2 ∧ y.2 ≤ 1000000) (hl : rd.length ≤ 60) (hE : ∀ y ∈ rd, VN S M (nda S y) ∧ VN S M (ndb M y)) :
 ∀ (d : Nat) (v : Int) (o : Opn) (out : Out), 0 ≤ v → v + d = M → Inv S M rd out o → (∀ x, VN S M x → ix S x < S + v → ¬ isO o x) →
  ∃ o' out', F49l3 S M rd v o out = some (o', out') ∧ Inv S M rd out' o' ∧ ∀ x, VN S M x → ¬ isO o' x := by
 intro d
 induction d with
 | zero =>
  intro v o out h0 hd I hlow
  refine ⟨o, out, ?_, I, fun x hx => hlow x hx ?_⟩
  · rw [F49l3, if_neg (by simp; omega)]
  rcases hx with ⟨e, a, b⟩ | ⟨e, a, b⟩
  · have : ix S x = x.2 := if_pos e
    omega
  have : ix S x = S + x.2 := if_neg (by omega)
  omega
 | succ d ih =>
  intro v o out h0 hd I hlow
  have one : ∀ x, VN S M x → ix S x < S + (v + 1) → ¬ ix S x < S + v → x = (1, v) := fun x hx h1 h2 => by
   rcases hx with ⟨e, a, b⟩ | ⟨e, a, b⟩
   · have : ix S x = x.2 := if_pos e
     omega
   have : ix S x = S + x.2 := if_neg (by omega)
   exact Prod.ext e (by dsimp only; omega)
  rw [F49l3, if_pos (by simp; omega), w64_in (by omega) (by omega)]
  simp only [Option.bind_eq_bind, Option.bind_some]
  split
  · rename_i ho
    obtain ⟨out', o', h1, h2, h3, h4⟩ := I.visit hS hM hv hl hE (n := (1, v)) (b := -1) (f := (1, v)) ho (fun x hx hlt => hlow x hx hlt)
    have e : F61 64 1 v 1 v 0 (-1) 1 v out o S M rd = some (out', o') := h1
    rw [e]
    refine ih (v + 1) o' out' (by omega) (by omega) h2 fun x hx hlt => ?_
    by_cases hl2 : ix S x < S + v
    · exact fun a => hlow x hx hl2 (h4 x a)
    rw [one x hx hlt hl2]; exact h3
  rename_i ho
  refine ih (v + 1) o out (by omega) (by omega) I fun x hx hlt => ?_
  by_cases hl2 : ix S x < S + v
  · exact hlow x hx hl2
  rw [one x hx hlt hl2]; exact ho
theorem tmod_in {h S : Int} (h0 : 0 ≤ h) (hS : 1 ≤ S) : 0 ≤ Int.tmod h S ∧ Int.tmod h S < S := by
 rw [Int.tmod_eq_emod_of_nonneg h0]
 exact ⟨Int.emod_nonneg _ (by omega), Int.emod_lt_of_pos _ (by omega)⟩
structure Rec0 (S M : Int) (rd : List (Int × Int)) : Prop where
 s : 1 ≤ S ∧ S ≤ 30
 m : 1 ≤ M ∧ M ≤ 30
 len : rd.length ≤ 60
 hour : ∀ y ∈ rd, 0 ≤ y.1 ∧ y.1 ≤ 100000
 val : ∀ y ∈ rd, -1000000 ≤ y.2 ∧ y.2 ≤ 1000000
theorem Rec0.ends (h : Rec0 S M rd) : ∀ y ∈ rd, VN S M (nda S y) ∧ VN S M (ndb M y) := fun y hy =>
 ⟨.inl ⟨rfl, tmod_in (h.hour y hy).1 h.s.1⟩, .inr ⟨rfl, tmod_in (h.hour y hy).1 h.m.1⟩⟩
theorem solveOk (h : Rec0 S M rd) : ∃ out opn, F49 S M rd = some out ∧ Inv S M rd out opn ∧ ∀ x, VN S M x → ¬ isO opn x := by
 have hs := h.s
 have hm := h.m
 obtain ⟨o0, e0, h0, k0⟩ := l0Ok (M := M) (rd := rd) hs.2 S.toNat 0 [] (Int.le_refl _) (by omega) ⟨by simp [keys], fun x => by first | (simp [isO, mget]; done) | (simp [isO, mget]; omega), by simp⟩ (fun x hx => by simp [keys] at hx)
 have o0k : ∀ x, isO o0 x → x.1 ≠ 1 := fun x hx => by
  rcases (h0.open_ x).1 hx with a | a
  · simp [isO, mget] at a
  rw [a.1]; decide
 obtain ⟨o1, e1, h1⟩ := l1Ok (S := S) (rd := rd) hm.2 o0k k0 M.toNat 0 o0 (Int.le_refl _) (by omega) ⟨h0.nodup, fun x => ⟨.inl, fun a => a.elim id fun a => by omega⟩, by omega⟩ k0
 have hopen : ∀ x, isO o1 x ↔ VN S M x := fun x => by
  rw [h1.open_, h0.open_]
  constructor
  · rintro ((a | a) | a)
    · simp [isO, mget] at a
    · exact .inl a
    exact .inr a
  rintro (a | a)
  · exact .inl (.inr a)
  exact .inr a
 have I1 : Inv S M rd [] o1 := ⟨h1.nodup, by have := h1.len; have := h0.len; simp at this; omega, fun x hx => (hopen x).1 hx, fun x hx hc => absurd ((hopen x).2 hx) hc, fun x hx hc => absurd ((hopen x).2 hx) hc,
  fun y hy hc => absurd ((hopen _).2 (h.ends y hy).1) hc, fun x hx => absurd rfl hx, by simp [keys]⟩
 have ixp : ∀ x, VN S M x → 0 ≤ ix S x := fun x hx => by
  rcases hx with ⟨e, a, b⟩ | ⟨e, a, b⟩
  · have : ix S x = x.2 := if_pos e
    omega
  have : ix S x = S + x.2 := if_neg (by omega)
  omega
 obtain ⟨o2, out2, e2, I2, c2⟩ := l2Ok (by omega) (by omega) hs.2 h.val h.len h.ends S.toNat 0 o1 [] (Int.le_refl _) (by omega) I1 (fun x hx hlt => by have := ixp x hx; omega)
 obtain ⟨o3, out3, e3, I3, c3⟩ := l3Ok (by omega) (by omega) (by omega) hm.2 h.val h.len h.ends M.toNat 0 o2 out2 (Int.le_refl _) (by omega) I2 (fun x hx hlt => c2 x hx (by omega))
 refine ⟨out3, o3, ?_, I3, c3⟩
 unfold F49
 rw [e0]
 simp only [Option.bind_eq_bind, Option.bind_some]
 rw [e1]
 simp only [Option.bind_some]
 rw [e2]
 simp only [Option.bind_some]
 rw [e3]
 rfl
end
end Go.Proofs.Ytdekbjfjbbdjgaa.plain
