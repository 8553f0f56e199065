/- The visit of a node: one reading. -/
import Derived.Test.YtdekbjfjbbdjgaaGW
import Derived.Test.YtdekbjfjbbdjgaaLW0
import Derived.Test.YtdekbjfjbbdjgaaLW1
set_option linter.unusedVariables false
namespace Go.Proofs.Ytdekbjfjbbdjgaa.plain
open Go Go.Cl
abbrev Nd := Int × Int
abbrev Pl := Nd × Int × Int × Nd
abbrev Out := List (Nd × Pl)
abbrev Opn := List (Nd × Bool)
abbrev Rec := Int → Int → Int → Int → Int → Int → Int → Int → Out → Opn → Int → Int → List (Int × Int) → Option (Out × Opn)
def isO (o : Opn) (x : Nd) : Prop := (mget o x).getD false = true
instance (o : Opn) (x : Nd) : Decidable (isO o x) := inferInstanceAs (Decidable (_ = true))
def call (rec : Rec) (S M : Int) (rd : List (Int × Int)) (n : Nd) (p : Pl) (out : Out) (opn : Opn) : Option (Out × Opn) :=
 rec n.1 n.2 p.1.1 p.1.2 p.2.1 p.2.2.1 p.2.2.2.1 p.2.2.2.2 out opn S M rd
def nda (S : Int) (x : Int × Int) : Nd := (0, Int.tmod x.1 S)
def ndb (M : Int) (x : Int × Int) : Nd := (1, Int.tmod x.1 M)
def stepO (rec : Rec) (S M : Int) (rd : List (Int × Int)) (n : Nd) (p : Pl) (x : Int × Int) (i : Int) (out : Out) (opn : Opn) : Option (Out × Opn) :=
 if n = nda S x ∧ isO opn (ndb M x) then call rec S M rd (ndb M x) (p.1, w64 (x.2 - p.2.1), i, n) out opn
 else if n = ndb M x ∧ isO opn (nda S x) then call rec S M rd (nda S x) (p.1, w64 (x.2 - p.2.1), i, n) out opn
 else some (out, opn)
def loop (rec : Rec) (S M : Int) (rd : List (Int × Int)) (n : Nd) (p : Pl) (i : Int) (out : Out) (opn : Opn) : Option (Out × Opn) :=
 F61l0 rec n.1 n.2 p.1.1 p.1.2 p.2.1 p.2.2.1 p.2.2.2.1 p.2.2.2.2 S M rd i out opn
theorem eqN (a b c d : Int) : ((a == c) && ((b == d) && true)) = decide ((a, b) = (c, d)) := by
 rw [Bool.eq_iff_iff]; simp [Prod.ext_iff]
theorem bindEta {α β : Type} {o : Option (α × β)} : (o.bind fun r => some (r.1, r.2)) = o := by cases o <;> rfl
theorem loop_end {rec : Rec} {S M : Int} {rd : List (Int × Int)} {n : Nd} {p : Pl} {i : Int} {out : Out} {opn : Opn} (h : (rd.length : Int) ≤ i) : loop rec S M rd n p i out opn = some (out, opn) := by
 unfold loop
 rw [F61l0, if_neg (by simpa using h)]
theorem loop_step {rec : Rec} {S M : Int} {rd : List (Int × Int)} {n : Nd} {p : Pl} {i : Int} {out : Out} {opn : Opn} (hS : S ≠ 0) (hM : M ≠ 0) (h0 : 0 ≤ i) (hi : i < (rd.length : Int)) :
 loop rec S M rd n p i out opn = (stepO rec S M rd n p (rd.getD i.toNat (0, 0)) i out opn).bind fun r => loop rec S M rd n p (w64 (i + 1)) r.1 r.2 := by
 obtain ⟨n1, n2⟩ := n
 obtain ⟨⟨a, b⟩, c, d, e, f⟩ := p
 unfold loop
 rw [F61l0, if_pos (by simpa using hi), if_pos ⟨h0, hi⟩]
 generalize rd.getD i.toNat (0, 0) = x
 obtain ⟨h, v⟩ := x
 simp only [F55, if_neg hS, if_neg hM, Option.bind_eq_bind, Option.bind_some, eqN, decide_eq_true_eq]
 unfold stepO call nda ndb isO
 by_cases h1 : (n1, n2) = (0, Int.tmod h S)
 · obtain ⟨rfl, rfl⟩ := Prod.mk.inj h1
   by_cases h2 : (mget opn (1, Int.tmod h M)).getD false = true
   · simp only [h2, if_true, Option.bind_some, and_self, bindEta]
   have h3 : ¬ ((0 : Int), Int.tmod h S) = (1, Int.tmod h M) := fun e => by have := (Prod.mk.inj e).1; omega
   simp only [h2, if_true, Option.bind_some, and_false, if_false, h3, false_and, Bool.false_eq_true]
 by_cases h4 : (n1, n2) = (1, Int.tmod h M)
 · obtain ⟨rfl, rfl⟩ := Prod.mk.inj h4
   by_cases h2 : (mget opn (0, Int.tmod h S)).getD false = true
   · simp only [h1, h2, if_true, if_false, false_and, Option.bind_some, and_self, Bool.false_eq_true, bindEta]
   simp only [h1, h2, if_true, if_false, false_and, and_false, Option.bind_some, Bool.false_eq_true]
 simp only [h1, h4, if_false, false_and, Option.bind_some, Bool.false_eq_true]
def sp (x : Nd) : Int := if x.1 = 0 then 1 else -1
structure Res (S M : Int) (rd : List (Int × Int)) (n : Nd) (p : Pl) (x : Nd) (q : Pl) : Prop where
 part : q.1 = p.1
 lo : -60000000 ≤ q.2.1
 hi : q.2.1 ≤ 60000000
 det : ∀ w : Nd → Int, (∀ y ∈ rd, w (nda S y) + w (ndb M y) = y.2) → q.2.1 = w x - sp x * (sp n * (w n - p.2.1))
 conn : ∀ c : Nd → Int, (∀ y ∈ rd, c (nda S y) = c (ndb M y)) → c x = c n
def Shut (S M : Int) (opn : Opn) (n : Nd) (y : Int × Int) : Prop := (nda S y = n → ¬ isO opn (ndb M y)) ∧ (ndb M y = n → ¬ isO opn (nda S y))
structure Did (S M : Int) (rd : List (Int × Int)) (n : Nd) (p : Pl) (out : Out) (opn : Opn) (out' : Out) (opn' : Opn) : Prop where
 shrink : ∀ x, isO opn' x → isO opn x
 len : opn'.length ≤ opn.length
 nodup : (keys opn').Nodup
 same : ∀ x, ¬ (isO opn x ∧ ¬ isO opn' x) → mget out' x = mget out x
 new : ∀ x, isO opn x → ¬ isO opn' x → ∃ q : Pl, mget out' x = some q ∧ Res S M rd n p x q
 shut : ∀ x, isO opn x → ¬ isO opn' x → ∀ y ∈ rd, Shut S M opn' x y
theorem isO_mdel {o : Opn} (h : (keys o).Nodup) {k x : Nd} : isO (mdel o k) x ↔ x ≠ k ∧ isO o x := by
 unfold isO
 rw [mget_mdel h]
 by_cases e : x = k
 · simp [e]
 simp [e]
theorem isO_mem {o : Opn} {x : Nd} (h : isO o x) : x ∈ keys o := by
 refine Classical.byContradiction fun hn => ?_
 unfold isO at h
 rw [mget_none.2 hn] at h
 cases h
section
variable {S M : Int} {rd : List (Int × Int)}
theorem Did.refl {n : Nd} {p : Pl} {out : Out} {opn : Opn} (h : (keys opn).Nodup) : Did S M rd n p out opn out opn :=
 ⟨fun _ h => h, Nat.le_refl _, h, fun _ _ => rfl, fun x a b => absurd a b, fun x a b => absurd a b⟩
theorem Did.trans {n m : Nd} {p q : Pl} {o1 o2 o3 : Out} {w1 w2 w3 : Opn} (h : Did S M rd n p o1 w1 o2 w2) (k : Did S M rd m q o2 w2 o3 w3) (hp : q.1 = p.1) (hs : sp m = - sp n)
 (hw : ∀ w : Nd → Int, (∀ y ∈ rd, w (nda S y) + w (ndb M y) = y.2) → w m - q.2.1 = - (w n - p.2.1)) (hc : ∀ c : Nd → Int, (∀ y ∈ rd, c (nda S y) = c (ndb M y)) → c m = c n) :
 Did S M rd n p o1 w1 o3 w3 := by
 have keep : ∀ x, isO w1 x → ¬ isO w2 x → mget o3 x = mget o2 x := fun x _ h2 => k.same x (fun e => h2 e.1)
 refine ⟨fun x hx => h.shrink x (k.shrink x hx), Nat.le_trans k.len h.len, k.nodup, fun x hx => ?_, fun x h1 h3 => ?_, fun x h1 h3 y hy => ?_⟩
 · rw [k.same x (fun e => hx ⟨h.shrink x e.1, e.2⟩)]
   exact h.same x (fun e => hx ⟨e.1, fun e3 => e.2 (k.shrink x e3)⟩)
 · by_cases h2 : isO w2 x
   · obtain ⟨r, e, R⟩ := k.new x h2 h3
     refine ⟨r, e, R.part.trans hp, R.lo, R.hi, fun w hg => ?_, fun c hg => (R.conn c hg).trans (hc c hg)⟩
     have e1 := R.det w hg
     rw [hw w hg, hs] at e1
     rw [e1, Int.neg_mul_neg]
   obtain ⟨r, e, R⟩ := h.new x h1 h2
   exact ⟨r, (keep x h1 h2).trans e, R⟩
 by_cases h2 : isO w2 x
 · exact k.shut x h2 h3 y hy
 have := h.shut x h1 h2 y hy
 exact ⟨fun e a => this.1 e (k.shrink _ a), fun e a => this.2 e (k.shrink _ a)⟩
def RecOk (rec : Rec) (S M : Int) (rd : List (Int × Int)) (k : Nat) : Prop :=
 ∀ (n : Nd) (p : Pl) (out : Out) (opn : Opn), isO opn n → opn.length ≤ k → opn.length ≤ 60 → (keys opn).Nodup → (-(1000000 * (60 - (opn.length : Int))) ≤ p.2.1 ∧ p.2.1 ≤ 1000000 * (60 - (opn.length : Int))) →
  ∃ out' opn', call rec S M rd n p out opn = some (out', opn') ∧ Did S M rd n p out opn out' opn' ∧ ¬ isO opn' n ∧ mget out' n = some p
theorem loopOk {rec : Rec} {k : Nat} (hS : S ≠ 0) (hM : M ≠ 0) (hrec : RecOk rec S M rd k) (hv : ∀ y ∈ rd, -1000000 ≤ y.2 ∧ y.2 ≤ 1000000) (hl : rd.length ≤ 60) {n : Nd} {p : Pl} {o1 : Out} {w1 : Opn}
 (hk : w1.length ≤ k) (h60 : w1.length + 1 ≤ 60) (hp : -(1000000 * (59 - (w1.length : Int))) ≤ p.2.1 ∧ p.2.1 ≤ 1000000 * (59 - (w1.length : Int))) :
 ∀ (d : Nat) (i : Int) (o : Out) (w : Opn), 0 ≤ i → i + d = rd.length → Did S M rd n p o1 w1 o w → (∀ j : Nat, (j : Int) < i → ∀ y, rd[j]? = some y → Shut S M w n y) →
  ∃ o' w', loop rec S M rd n p i o w = some (o', w') ∧ Did S M rd n p o1 w1 o' w' ∧ ∀ y ∈ rd, Shut S M w' n y := by
 intro d
 induction d with
 | zero =>
  intro i o w h0 hd hD hs
  refine ⟨o, w, loop_end (by omega), hD, fun y hy => ?_⟩
  obtain ⟨j, hj⟩ := List.mem_iff_getElem?.1 hy
  have := (List.getElem?_eq_some_iff.1 hj).1
  exact hs j (by omega) y hj
 | succ d ih =>
  intro i o w h0 hd hD hs
  have hi : i < (rd.length : Int) := by omega
  have hw : w64 (i + 1) = i + 1 := w64_in (by omega) (by omega)
  rw [loop_step hS hM h0 hi, hw]
  obtain ⟨y, hy⟩ : ∃ y, rd[i.toNat]? = some y := ⟨_, List.getElem?_eq_getElem (by omega)⟩
  have hyd : rd.getD i.toNat (0, 0) = y := by simp [List.getD, hy]
  have hym : y ∈ rd := List.mem_of_getElem? hy
  rw [hyd]
  have hyv := hv y hym
  have hlen := hD.len
  have hwv : w64 (y.2 - p.2.1) = y.2 - p.2.1 := w64_in (by omega) (by omega)
  have later : ∀ w' : Opn, (∀ x, isO w' x → isO w x) → Shut S M w' n y → ∀ j : Nat, (j : Int) < i + 1 → ∀ z, rd[j]? = some z → Shut S M w' n z := fun w' hsub hY j hj z hz => by
   by_cases e : (j : Int) = i
   · have : j = i.toNat := by omega
     rw [this, hy] at hz
     cases hz
     exact hY
   have := hs j (by omega) z hz
   exact ⟨fun a b => this.1 a (hsub _ b), fun a b => this.2 a (hsub _ b)⟩
  have visit : ∀ m : Nd, isO w m → sp m = - sp n → (∀ f : Nd → Int, (∀ y ∈ rd, f (nda S y) + f (ndb M y) = y.2) → f m + f n = y.2) → (∀ c : Nd → Int, (∀ y ∈ rd, c (nda S y) = c (ndb M y)) → c m = c n) →
   (∀ w' : Opn, ¬ isO w' m → Shut S M w' n y) →
   ∃ o' w', ((call rec S M rd m (p.1, w64 (y.2 - p.2.1), i, n) o w).bind fun r => loop rec S M rd n p (i + 1) r.1 r.2) = some (o', w') ∧ Did S M rd n p o1 w1 o' w' ∧ ∀ y ∈ rd, Shut S M w' n y := by
   intro m hm hsm hf hc hsh
   obtain ⟨o2, w2, h1, h2, h3, _⟩ := hrec m (p.1, w64 (y.2 - p.2.1), i, n) o w hm (by omega) (by omega) hD.nodup (by rw [hwv]; dsimp only; omega)
   rw [h1]
   refine ih (i + 1) o2 w2 (by omega) (by omega) (hD.trans h2 rfl hsm (fun f hg => ?_) hc) (later w2 h2.shrink (hsh w2 h3))
   have := hf f hg
   rw [hwv]
   dsimp only
   omega
  unfold stepO
  split
  · rename_i h1
    refine visit _ h1.2 ?_ (fun f hg => ?_) (fun c hc => ?_) (fun w' hw' => ⟨fun _ => hw', fun e => ?_⟩)
    · rw [h1.1]; rfl
    · have := hg y hym; rw [h1.1]; omega
    · rw [h1.1]; exact (hc y hym).symm
    rw [h1.1] at e; exact absurd (Prod.mk.inj e).1 (by decide)
  rename_i h1
  split
  · rename_i h2
    refine visit _ h2.2 ?_ (fun f hg => ?_) (fun c hc => ?_) (fun w' hw' => ⟨fun e => ?_, fun _ => hw'⟩)
    · rw [h2.1]; rfl
    · have := hg y hym; rw [h2.1]; omega
    · rw [h2.1]; exact hc y hym
    rw [h2.1] at e; exact absurd (Prod.mk.inj e).1 (by decide)
  rename_i h2
  exact ih (i + 1) o w (by omega) (by omega) hD (later w (fun _ h => h) ⟨fun e a => h1 ⟨e.symm, a⟩, fun e a => h2 ⟨e.symm, a⟩⟩)
theorem visitOk (hS : S ≠ 0) (hM : M ≠ 0) (hv : ∀ y ∈ rd, -1000000 ≤ y.2 ∧ y.2 ≤ 1000000) (hl : rd.length ≤ 60) : ∀ k : Nat, RecOk (F61 k) S M rd k
 | 0 => fun n p out opn h hk => by
  have := isO_mem h
  have : opn = [] := List.length_eq_zero_iff.1 (by omega)
  subst this
  simp [keys] at *
 | k + 1 => fun n p out opn h hk h60 hn hp => by
  have hm := isO_mem h
  have hlen := len_mdel hm
  have hnd := nodup_mdel n hn
  obtain ⟨o', w', h1, h2, h3⟩ := loopOk (n := n) (p := p) (o1 := mput out n p) (w1 := mdel opn n) hS hM (visitOk hS hM hv hl k) hv hl (by omega) (by omega) (by omega) rd.length 0 _ _ (Int.le_refl _) (by omega) (Did.refl hnd)
   (fun j hj => by omega)
  have hno : ¬ isO w' n := fun e => by
   have := (isO_mdel hn).1 (h2.shrink n e)
   exact this.1 rfl
  have hput : mget o' n = some p := by
   rw [h2.same n (fun e => by have := (isO_mdel hn).1 e.1; exact this.1 rfl), mget_mput, if_pos rfl]
  refine ⟨o', w', ?_, ⟨fun x hx => ((isO_mdel hn).1 (h2.shrink x hx)).2, by have := h2.len; omega, h2.nodup, fun x hx => ?_, fun x ho hc => ?_, fun x ho hc => ?_⟩, hno, hput⟩
  · have e : call (F61 (k + 1)) S M rd n p out opn = (loop (F61 k) S M rd n p 0 (mput out n p) (mdel opn n)).bind fun r => some (r.1, r.2) := rfl
    rw [e, h1]
    rfl
  · have hxn : x ≠ n := fun e => hx ⟨e ▸ h, e ▸ hno⟩
    rw [h2.same x (fun e => hx ⟨((isO_mdel hn).1 e.1).2, e.2⟩), mget_mput, if_neg hxn]
  · by_cases e : x = n
    · subst e
      refine ⟨p, hput, rfl, by omega, by omega, fun w _ => ?_, fun c _ => rfl⟩
      have : sp x * (sp x * (w x - p.2.1)) = w x - p.2.1 := by
       unfold sp
       split <;> omega
      omega
    exact h2.new x ((isO_mdel hn).2 ⟨e, ho⟩) hc
  by_cases e : x = n
  · subst e
    exact h3
  exact h2.shut x ((isO_mdel hn).2 ⟨e, ho⟩) hc
def VN (S M : Int) (x : Nd) : Prop := (x.1 = 0 ∧ 0 ≤ x.2 ∧ x.2 < S) ∨ (x.1 = 1 ∧ 0 ≤ x.2 ∧ x.2 < M)
def ix (S : Int) (x : Nd) : Int := if x.1 = 0 then x.2 else S + x.2
structure Placed (S M : Int) (rd : List (Int × Int)) (out : Out) (opn : Opn) (x : Nd) (q qr : Pl) : Prop where
 at_ : mget out x = some q
 val : VN S M q.1
 shut : ¬ isO opn q.1
 le : ix S q.1 ≤ ix S x
 root : mget out q.1 = some qr
 idem : qr.1 = q.1
 zero : qr.2.1 = 0
 lo : -60000000 ≤ q.2.1
 hi : q.2.1 ≤ 60000000
 det : ∀ w : Nd → Int, (∀ y ∈ rd, w (nda S y) + w (ndb M y) = y.2) → q.2.1 = w x - sp x * (sp q.1 * w q.1)
 conn : ∀ c : Nd → Int, (∀ y ∈ rd, c (nda S y) = c (ndb M y)) → c x = c q.1
structure Inv (S M : Int) (rd : List (Int × Int)) (out : Out) (opn : Opn) : Prop where
 nodup : (keys opn).Nodup
 len : opn.length ≤ 60
 val : ∀ x, isO opn x → VN S M x
 cl : ∀ x, VN S M x → ¬ isO opn x → ∃ q qr, Placed S M rd out opn x q qr
 shut : ∀ x, VN S M x → ¬ isO opn x → ∀ y ∈ rd, Shut S M opn x y
 edge : ∀ y ∈ rd, ¬ isO opn (nda S y) → ∀ q r, mget out (nda S y) = some q → mget out (ndb M y) = some r → q.1 = r.1
 ks : ∀ x, mget out x ≠ none → VN S M x
 nd : (keys out).Nodup
theorem loop_nodup {rec : Rec} (hS : S ≠ 0) (hM : M ≠ 0) (hl : rd.length ≤ 60) (hrec : ∀ n p out opn r, call rec S M rd n p out opn = some r → (keys out).Nodup → (keys r.1).Nodup) {n : Nd} {p : Pl} :
 ∀ (d : Nat) (i : Int) (out : Out) (opn : Opn) (r : Out × Opn), 0 ≤ i → i + d = rd.length → loop rec S M rd n p i out opn = some r → (keys out).Nodup → (keys r.1).Nodup := by
 intro d
 induction d with
 | zero =>
  intro i out opn r h0 hd h hn
  rw [loop_end (by omega)] at h
  cases h
  exact hn
 | succ d ih =>
  intro i out opn r h0 hd h hn
  rw [loop_step hS hM h0 (by omega), w64_in (by omega) (by omega)] at h
  obtain ⟨r1, h1, h2⟩ := Option.bind_eq_some_iff.1 h
  refine ih (i + 1) r1.1 r1.2 r (by omega) (by omega) h2 ?_
  unfold stepO at h1
  split at h1
  · exact hrec _ _ _ _ _ h1 hn
  split at h1
  · exact hrec _ _ _ _ _ h1 hn
  cases h1; exact hn
theorem visit_nodup (hS : S ≠ 0) (hM : M ≠ 0) (hl : rd.length ≤ 60) : ∀ (k : Nat) (n : Nd) (p : Pl) (out : Out) (opn : Opn) (r : Out × Opn), call (F61 k) S M rd n p out opn = some r → (keys out).Nodup → (keys r.1).Nodup := by
 intro k
 induction k with
 | zero => intro n p out opn r h hn; cases h
 | succ k ih =>
  intro n p out opn r h hn
  have h' : loop (F61 k) S M rd n p 0 (mput out n p) (mdel opn n) = some r := by
   have : call (F61 (k + 1)) S M rd n p out opn = (loop (F61 k) S M rd n p 0 (mput out n p) (mdel opn n)).bind fun r => some (r.1, r.2) := rfl
   rw [this, bindEta] at h
   exact h
  exact loop_nodup hS hM hl ih rd.length 0 _ _ r (Int.le_refl _) (by omega) h' (nodup_mput _ _ hn)
theorem Inv.visit (hS : S ≠ 0) (hM : M ≠ 0) (hv : ∀ y ∈ rd, -1000000 ≤ y.2 ∧ y.2 ≤ 1000000) (hl : rd.length ≤ 60) (hE : ∀ y ∈ rd, VN S M (nda S y) ∧ VN S M (ndb M y)) {out : Out} {opn : Opn} (I : Inv S M rd out opn) {n : Nd} {b : Int} {f : Nd}
 (ho : isO opn n) (hlow : ∀ x, VN S M x → ix S x < ix S n → ¬ isO opn x) :
 ∃ out' opn', call (F61 64) S M rd n (n, 0, b, f) out opn = some (out', opn') ∧ Inv S M rd out' opn' ∧ ¬ isO opn' n ∧ ∀ x, isO opn' x → isO opn x := by
 have hlen := I.len
 obtain ⟨out', opn', h1, h2, h3, h4⟩ := visitOk hS hM hv hl 64 n (n, 0, b, f) out opn ho (by omega) hlen I.nodup (by dsimp only; omega)
 have old : ∀ x, ¬ isO opn x → mget out' x = mget out x := fun x hx => h2.same x (fun e => hx e.1)
 refine ⟨out', opn', h1, ⟨h2.nodup, by have := h2.len; omega, fun x hx => I.val x (h2.shrink x hx), fun x hx hc => ?_, fun x hx hc y hy => ?_, fun y hy hc q r hq hr => ?_, fun x hx => ?_, visit_nodup hS hM hl 64 _ _ _ _ _ h1 I.nd⟩, h3, h2.shrink⟩
 · by_cases hox : isO opn x
   · obtain ⟨q, e, R⟩ := h2.new x hox hc
     have hp : q.1 = n := R.part
     refine ⟨q, (n, 0, b, f), e, by rw [hp]; exact I.val n ho, by rw [hp]; exact h3, ?_, by rw [hp]; exact h4, by rw [hp], rfl, R.lo, R.hi, fun w hg => ?_, fun c hg => ?_⟩
     · rw [hp]
       refine Classical.byContradiction fun hlt => hlow x hx (by omega) hox
     · have := R.det w hg
       rw [hp, this]
       dsimp only
       rw [Int.sub_zero]
     rw [hp]; exact R.conn c hg
   obtain ⟨q, qr, P⟩ := I.cl x hx hox
   exact ⟨q, qr, (old x hox).trans P.at_, P.val, fun e => P.shut (h2.shrink _ e), P.le, (old _ P.shut).trans P.root, P.idem, P.zero, P.lo, P.hi, P.det, P.conn⟩
 · by_cases hox : isO opn x
   · exact h2.shut x hox hc y hy
   have := I.shut x hx hox y hy
   exact ⟨fun e a => this.1 e (h2.shrink _ a), fun e a => this.2 e (h2.shrink _ a)⟩
 · obtain ⟨va, vb⟩ := hE y hy
   by_cases hoa : isO opn (nda S y)
   · have hob : isO opn (ndb M y) := Classical.byContradiction fun hn => (I.shut _ vb hn y hy).2 rfl hoa
     have hcb : ¬ isO opn' (ndb M y) := (h2.shut _ hoa hc y hy).1 rfl
     obtain ⟨q1, e1, R1⟩ := h2.new _ hoa hc
     obtain ⟨q2, e2, R2⟩ := h2.new _ hob hcb
     rw [e1] at hq; cases hq
     rw [e2] at hr; cases hr
     exact R1.part.trans R2.part.symm
   have hob : ¬ isO opn (ndb M y) := (I.shut _ va hoa y hy).1 rfl
   rw [old _ hoa] at hq
   rw [old _ hob] at hr
   exact I.edge y hy hoa q r hq hr
 by_cases hox : isO opn x
 · exact I.val x hox
 rw [old x hox] at hx; exact I.ks x hx
end
end Go.Proofs.Ytdekbjfjbbdjgaa.plain
