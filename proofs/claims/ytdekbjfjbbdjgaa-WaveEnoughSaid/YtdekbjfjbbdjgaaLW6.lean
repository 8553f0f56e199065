/- The reference's rounds give the record's parts and waves. -/
import Derived.Test.YtdekbjfjbbdjgaaLW5
set_option linter.unusedVariables false
namespace Go.Proofs.Ytdekbjfjbbdjgaa.plain
open Go Go.Cl
section
variable {n S i : Int} {E : Edges} {P W : List Int}
def cnt (P : List Int) : Nat := P.countP fun x => decide (0 ≤ x)
theorem cnt_le : cnt P ≤ P.length := List.countP_le_length
theorem cnt_set {j v : Int} (h0 : 0 ≤ j) (hj : j < P.length) (hv : 0 ≤ v) (hP : at0 P j < 0) : cnt (P.set j.toNat v) = cnt P + 1 := by
 unfold cnt
 have hl : j.toNat < P.length := by omega
 have hg : P[j.toNat] = at0 P j := by simp [at0, List.getD, hl]
 rw [List.countP_set hl]
 have h1 : decide (0 ≤ P[j.toNat]) = false := by rw [hg]; simpa using hP
 have h2 : decide (0 ≤ v) = true := by simpa using hv
 simp [h1, h2]
structure Node (n S : Int) (E : Edges) (P W : List Int) (x : Int) : Prop where
 p0 : 0 ≤ at0 P x
 le : at0 P x ≤ x
 idem : at0 P (at0 P x) = at0 P x
 zero : at0 W (at0 P x) = 0
 lo : -(1000000 * (cnt P : Int)) ≤ at0 W x
 hi : at0 W x ≤ 1000000 * (cnt P : Int)
 det : ∀ w : Int → Int, (∀ e ∈ E, w e.1 + w e.2.1 = e.2.2) → at0 W x = w x - sg S x * sg S (at0 P x) * w (at0 P x)
 conn : ∀ c : Int → Int, (∀ e ∈ E, c e.1 = c e.2.1) → c x = c (at0 P x)
structure Fill (n S i : Int) (E : Edges) (P W : List Int) : Prop where
 lp : (P.length : Int) = n
 lw : (W.length : Int) = n
 node : ∀ x, 0 ≤ x → x < n → at0 P x < 0 ∨ Node n S E P W x
 low : ∀ x, 0 ≤ x → x ≤ i → 0 ≤ at0 P x
 self : at0 P i = i
 sep : ∀ e ∈ E, (0 ≤ at0 P e.1 → at0 P e.1 ≠ i → at0 P e.2.1 = at0 P e.1) ∧ (0 ≤ at0 P e.2.1 → at0 P e.2.1 ≠ i → at0 P e.1 = at0 P e.2.1)
 zed : ∀ x, 0 ≤ x → x < n → at0 P x < 0 → at0 W x = 0
theorem Fill.found (K : Fill n S i E P W) (hE : Ends n S E) (h60 : n ≤ 60) (hval : ∀ e ∈ E, -1000000 ≤ e.2.2 ∧ e.2.2 ≤ 1000000) {a b v : Int} (hi : 0 ≤ i) (ha0 : 0 ≤ a) (han : a < n) (hb0 : 0 ≤ b) (hbn : b < n) (hsg : sg S b = - sg S a)
 (he : ∃ e ∈ E, e.2.2 = v ∧ ((e.1 = a ∧ e.2.1 = b) ∨ (e.1 = b ∧ e.2.1 = a))) (hPa : at0 P a = i) (hPb : at0 P b < 0) :
 Fill n S i E (P.set b.toNat i) (W.set b.toNat (w64 (v - at0 W a))) ∧ cnt (P.set b.toNat i) = cnt P + 1 := by
 have lp := K.lp
 have lw := K.lw
 have hin : i < n := by
  refine Classical.byContradiction fun hx => ?_
  have := K.low b hb0 (by omega)
  omega
 have hbi : i < b := by
  refine Classical.byContradiction fun hx => ?_
  have := K.low b hb0 (by omega)
  omega
 have sP : ∀ j, 0 ≤ j → at0 (P.set b.toNat i) j = if j = b then i else at0 P j := fun j hj => at0_set hb0 (by omega) hj
 have sW : ∀ j, 0 ≤ j → at0 (W.set b.toNat (w64 (v - at0 W a))) j = if j = b then w64 (v - at0 W a) else at0 W j := fun j hj => at0_set hb0 (by omega) hj
 have hc : cnt (P.set b.toNat i) = cnt P + 1 := cnt_set hb0 (by omega) hi hPb
 have hcl := cnt_le (P := P)
 have hNa : Node n S E P W a := (K.node a ha0 han).resolve_left (by omega)
 have hWa := hNa.lo
 have hWa' := hNa.hi
 obtain ⟨e, hem, hev, hab⟩ := he
 have hv := hval e hem
 have hw : w64 (v - at0 W a) = v - at0 W a := w64_in (by omega) (by omega)
 rw [hw] at sW ⊢
 have hNi : Node n S E P W i := (K.node i hi hin).resolve_left (by have := K.self; omega)
 refine ⟨⟨by rw [List.length_set]; exact lp, by rw [List.length_set]; exact lw, fun x h0 hx => ?_, fun x h0 hx => ?_, ?_, fun f hf => ?_, fun x h0 hx hn => ?_⟩, hc⟩
 · by_cases ex : x = b
   · refine .inr ?_
     subst ex
     have e1 := sP x hb0
     have e2 := sW x hb0
     rw [if_pos rfl] at e1 e2
     have zi : at0 W i = 0 := by have := hNi.zero; rwa [K.self] at this
     refine ⟨by omega, by omega, ?_, ?_, by rw [e2, hc]; omega, by rw [e2, hc]; omega, fun w hg => ?_, fun c hg => ?_⟩
     · rw [e1, sP i hi, if_neg (by omega)]; exact K.self
     · rw [e1, sW i hi, if_neg (by omega)]; exact zi
     · have d := hNa.det w hg
       have g := hg e hem
       rw [e1, e2, d, hPa, hsg]
       have : w a + w x = v := by rcases hab with ⟨rfl, rfl⟩ | ⟨rfl, rfl⟩ <;> omega
       rw [Int.neg_mul, Int.neg_mul]
       omega
     have d := hNa.conn c hg
     have g := hg e hem
     rw [e1]
     rw [hPa] at d
     have : c x = c a := by rcases hab with ⟨rfl, rfl⟩ | ⟨rfl, rfl⟩ <;> omega
     omega
   rcases K.node x h0 hx with hneg | N
   · left; rw [sP x h0, if_neg ex]; exact hneg
   right
   have e1 := sP x h0
   have e2 := sW x h0
   rw [if_neg ex] at e1 e2
   have hr : at0 P x ≠ b := fun eb => by have := N.idem; rw [eb] at this; omega
   have hr0 := N.p0
   refine ⟨by omega, by rw [e1]; exact N.le, ?_, ?_, by rw [e2, hc]; have := N.lo; omega, by rw [e2, hc]; have := N.hi; omega, fun w hg => by rw [e1, e2]; exact N.det w hg, fun c hg => by rw [e1]; exact N.conn c hg⟩
   · rw [e1, sP _ hr0, if_neg hr]; exact N.idem
   rw [e1, sW _ hr0, if_neg hr]; exact N.zero
 · rw [sP x h0, if_neg (by omega)]; exact K.low x h0 hx
 · rw [sP i hi, if_neg (by omega)]; exact K.self
 · have hf' := hE f hf
   rw [sP f.1 hf'.1, sP f.2.1 (by omega)]
   have k := K.sep f hf
   constructor
   · intro p1 p2
     split at p1
     · rename_i q; rw [if_pos q] at p2; exact absurd rfl p2
     rename_i q
     rw [if_neg q] at p2 ⊢
     have := k.1 p1 p2
     rw [if_neg (fun eb => by rw [eb] at this; omega)]
     exact this
   intro p1 p2
   split at p1
   · rename_i q; rw [if_pos q] at p2; exact absurd rfl p2
   rename_i q
   rw [if_neg q] at p2 ⊢
   have := k.2 p1 p2
   rw [if_neg (fun eb => by rw [eb] at this; omega)]
   exact this
 rw [sP x h0] at hn
 by_cases ex : x = b
 · rw [if_pos ex] at hn; omega
 rw [if_neg ex] at hn
 rw [sW x h0, if_neg ex]
 exact K.zed x h0 hx hn
def Tied (i : Int) (P : List Int) (e : Int × Int × Int) : Prop := (at0 P e.1 = i → 0 ≤ at0 P e.2.1) ∧ (at0 P e.2.1 = i → 0 ≤ at0 P e.1)
theorem Fill.relax (K : Fill n S i E P W) (hE : Ends n S E) (h60 : n ≤ 60) (hval : ∀ e ∈ E, -1000000 ≤ e.2.2 ∧ e.2.2 ≤ 1000000) (hi : 0 ≤ i) {e : Int × Int × Int} (he : e ∈ E) :
 Fill n S i E (relax i e P W).1 (relax i e P W).2 ∧ ((relax i e P W = (P, W) ∧ Tied i P e) ∨ cnt P + 1 ≤ cnt (relax i e P W).1) := by
 obtain ⟨h1, h2, h3, h4⟩ := hE e he
 have sa : sg S e.1 = 1 := if_pos h2
 have sb : sg S e.2.1 = -1 := if_neg (by omega)
 unfold plain.relax
 dsimp only
 by_cases c : at0 P e.1 = i ∧ at0 P e.2.1 < 0
 · obtain ⟨K1, hc⟩ := K.found hE h60 hval hi h1 (by omega) (by omega) h4 (by omega) ⟨e, he, rfl, .inl ⟨rfl, rfl⟩⟩ c.1 c.2
   have hne : e.1 ≠ e.2.1 := by omega
   have lp := K.lp
   rw [if_pos c]
   dsimp only
   have n2 : ¬ (at0 (P.set e.2.1.toNat i) e.2.1 = i ∧ at0 (P.set e.2.1.toNat i) e.1 < 0) := fun x => by
    have := x.2
    rw [at0_set (by omega) (by omega) h1, if_neg hne] at this
    have := c.1
    omega
   rw [if_neg n2]
   exact ⟨K1, .inr (by dsimp only; omega)⟩
 rw [if_neg c]
 dsimp only
 by_cases d : at0 P e.2.1 = i ∧ at0 P e.1 < 0
 · obtain ⟨K1, hc⟩ := K.found hE h60 hval hi (a := e.2.1) (b := e.1) (by omega) h4 h1 (by omega) (by omega) ⟨e, he, rfl, .inr ⟨rfl, rfl⟩⟩ d.1 d.2
   rw [if_pos d]
   exact ⟨K1, .inr (by dsimp only; omega)⟩
 rw [if_neg d]
 exact ⟨K, .inl ⟨rfl, fun x => Classical.byContradiction fun y => c ⟨x, by omega⟩, fun x => Classical.byContradiction fun y => d ⟨x, by omega⟩⟩⟩
end
end Go.Proofs.Ytdekbjfjbbdjgaa.plain
