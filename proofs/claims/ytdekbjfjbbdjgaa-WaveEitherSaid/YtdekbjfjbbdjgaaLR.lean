/- All rings of a record are tried: rings says whether a sum of two waves fits. -/
import Derived.Test.YtdekbjfjbbdjgaaGT
import Derived.Test.YtdekbjfjbbdjgaaLT
set_option linter.unusedVariables false
namespace Go.Proofs.Ytdekbjfjbbdjgaa.plain
open Go Go.Cl
section
variable {S M : Int} {rd : List (Int × Int)}
theorem tmod_two (j : Nat) : Int.tmod (j : Int) 2 = ((j % 2 : Nat) : Int) := by rw [Int.tmod_eq_emod_of_nonneg (by omega)]; rfl
def lastRd (rd : List (Int × Int)) : Option (Int × Int) → List Int → Option (Int × Int)
 | p, [] => p
 | _, i :: l => lastRd rd (some (rd.getD i.toNat (0, 0))) l
def flips : Bool → List Int → Bool
 | b, [] => b
 | b, _ :: l => flips (!b) l
theorem vloop_app (m : List Int) : ∀ (l : List Int) (prev : Option (Int × Int)) (odd : Bool) (z : Int), vloop S M rd prev odd z (l ++ m) = match vloop S M rd prev odd z l with | .inl e => .inl e | .inr z' => vloop S M rd (lastRd rd prev l) (flips odd l) z' m
 | [], _, _, _ => rfl
 | i :: l, prev, odd, z => by
  simp only [List.cons_append, vloop]
  by_cases c : 0 ≤ i ∧ i < (rd.length : Int)
  · rw [if_pos c, if_pos c]
    by_cases k : linkOk S M prev odd (rd.getD i.toNat (0, 0))
    · rw [if_pos k, if_pos k]
      exact vloop_app m l _ _ _
    rw [if_neg k, if_neg k]
  rw [if_neg c, if_neg c]
theorem flips_eq : ∀ (l : List Int) (b : Bool), flips b l = (b != decide (l.length % 2 = 1))
 | [], b => by cases b <;> rfl
 | i :: l, b => by
  rw [flips, flips_eq l (!b), List.length_cons]
  by_cases c : l.length % 2 = 1
  · rw [decide_eq_true c, decide_eq_false (by omega)]; cases b <;> rfl
  rw [decide_eq_false c, decide_eq_true (by omega)]; cases b <;> rfl
theorem lastRd_eq : ∀ (l : List Int) (p : Option (Int × Int)), l ≠ [] → lastRd rd p l = some (rdAt rd l (l.length - 1))
 | [], _, h => absurd rfl h
 | [i], _, _ => rfl
 | i :: j :: l, p, _ => by
  rw [lastRd, lastRd_eq (j :: l) _ (by simp)]
  rfl
theorem vloop_mem : ∀ (l : List Int) (prev : Option (Int × Int)) (odd : Bool) (z z' : Int), vloop S M rd prev odd z l = .inr z' → ∀ i ∈ l, 0 ≤ i ∧ i < (rd.length : Int)
 | [], _, _, _, _, _, i, hi => by cases hi
 | j :: l, prev, odd, z, z', h, i, hi => by
  simp only [vloop] at h
  split at h
  · rename_i c
    split at h
    · rcases List.mem_cons.1 hi with rfl | hi
      · exact c
      exact vloop_mem l _ _ _ _ h i hi
    cases h
  cases h
theorem vloop_bd (h0 : Rec0 S M rd) : ∀ (l : List Int) (prev : Option (Int × Int)) (odd : Bool) (z z' : Int), vloop S M rd prev odd z l = .inr z' → z - 1000000 * (l.length : Int) ≤ z' ∧ z' ≤ z + 1000000 * (l.length : Int)
 | [], _, _, z, z', h => by
  simp only [vloop, Sum.inr.injEq] at h
  subst h
  exact ⟨by simp, by simp⟩
 | j :: l, prev, odd, z, z', h => by
  simp only [vloop] at h
  split at h
  · rename_i c
    split at h
    · have a := vloop_bd h0 l _ _ _ _ h
      have b := h0.val _ (getD_mem (rd := rd) (j := j.toNat) (by omega))
      rw [List.length_cons]
      cases odd with
      | true => simp only [if_true] at a; omega
      | false => simp only [Bool.false_eq_true, if_false] at a; omega
    cases h
  cases h
theorem verdict_iff (r : List Int) : verdict S M rd r = 0 ↔ ((2 ≤ r.length ∧ r.length ≤ 60) ∧ r.length % 2 = 0) ∧ ∃ z, vloop S M rd none false 0 r = .inr z ∧ z ≠ 0 ∧ Int.tmod (rdAt rd r 0).1 M = Int.tmod (rdAt rd r (r.length - 1)).1 M := by
 unfold verdict
 by_cases c : (2 ≤ r.length ∧ r.length ≤ 60) ∧ r.length % 2 = 0
 · rw [if_pos c]
   cases hv : vloop S M rd none false 0 r with
   | inl e =>
    constructor
    · intro h
      have : ∀ (l : List Int) (prev : Option (Int × Int)) (odd : Bool) (z e : Int), vloop S M rd prev odd z l = .inl e → e ≠ 0 := by
       intro l
       induction l with
       | nil => intro prev odd z e h; cases h
       | cons i l ih =>
        intro prev odd z e h
        simp only [vloop] at h
        split at h
        · split at h
          · exact ih _ _ _ _ h
          cases h; decide
        cases h; decide
      exact absurd h (this _ _ _ _ _ hv)
    rintro ⟨_, z, h, _⟩
    cases h
   | inr z =>
    dsimp only
    by_cases cl : Int.tmod (rdAt rd r 0).1 M = Int.tmod (rdAt rd r (r.length - 1)).1 M
    · rw [if_pos cl]
      by_cases cz : z = 0
      · rw [if_pos cz]
        exact ⟨fun h => (by cases h), fun ⟨_, z', h, hz, _⟩ => by cases h; exact absurd cz hz⟩
      rw [if_neg cz]
      exact ⟨fun _ => ⟨c, z, rfl, cz, cl⟩, fun _ => rfl⟩
    rw [if_neg cl]
    exact ⟨fun h => (by cases h), fun ⟨_, _, _, _, h⟩ => absurd h cl⟩
 rw [if_neg c]
 exact ⟨fun h => (by cases h), fun ⟨h, _⟩ => absurd h c⟩
def BadFrom (S M : Int) (rd : List (Int × Int)) (beg : List Int) : Prop := ∃ e, (beg ++ e).Nodup ∧ verdict S M rd (beg ++ e) = 0
theorem BadFrom.step {beg : List Int} {z : Int} {i : Int} (hz : vloop S M rd none false 0 beg = .inr z) (h : BadFrom S M rd (beg ++ [i])) : (0 ≤ i ∧ i < (rd.length : Int)) ∧ i ∉ beg ∧ linkOk S M (lastRd rd none beg) (flips false beg) (rd.getD i.toNat (0, 0)) := by
 obtain ⟨e, hn, hv⟩ := h
 obtain ⟨_, z', hl, _⟩ := (verdict_iff _).1 hv
 rw [List.append_assoc, vloop_app, hz] at hl
 simp only [List.cons_append, List.nil_append, vloop] at hl
 split at hl
 · rename_i c
   split at hl
   · rename_i k
     refine ⟨c, fun hi => ?_, k⟩
     rw [List.append_assoc, List.nodup_append] at hn
     exact hn.2.2 i hi i (by simp) rfl
   cases hl
 cases hl
theorem used_loop {p4 : Int} {o : Int × Int} {i : Int} {p3 : List Int} (hl : p3.length ≤ 1000) : ∀ (d : Nat) (v : Int) (u : Bool), 0 ≤ v → v + d = p3.length → F33l1 S M rd p3 p4 o i u v = some (u || decide (i ∈ p3.drop v.toNat)) := by
 intro d
 induction d with
 | zero =>
  intro v u h0 hd
  rw [F33l1, if_neg (by simp; omega), List.drop_eq_nil_iff.2 (by omega)]
  simp
 | succ d ih =>
  intro v u h0 hd
  rw [F33l1, if_pos (by simp; omega), if_pos ⟨h0, by omega⟩, List.drop_eq_getElem_cons (by omega : v.toNat < p3.length)]
  have hg : List.getD p3 v.toNat 0 = p3[v.toNat]'(by omega) := by rw [List.getD_eq_getElem?_getD, List.getElem?_eq_getElem (by omega : v.toNat < p3.length)]; rfl
  simp only [Option.bind_eq_bind, Option.bind_some, hg]
  have e : (if u = true then some true else some (p3[v.toNat]'(by omega) == i)) = some (u || (p3[v.toNat]'(by omega) == i)) := by cases u <;> rfl
  rw [e]
  simp only [Option.bind_some]
  rw [w64_in (by omega) (by omega), ih (v + 1) _ (by omega) (by omega), show (v + 1).toNat = v.toNat + 1 by omega]
  congr 1
  simp only [List.mem_cons]
  by_cases c : p3[v.toNat]'(by omega) = i
  · rw [beq_iff_eq.2 c, decide_eq_true (show i = p3[v.toNat]'(by omega) ∨ i ∈ p3.drop (v.toNat + 1) from .inl c.symm)]
    cases u <;> rfl
  rw [beq_eq_false_iff_ne.2 c]
  have : decide (i = p3[v.toNat]'(by omega) ∨ i ∈ p3.drop (v.toNat + 1)) = decide (i ∈ p3.drop (v.toNat + 1)) := decide_eq_decide.2 ⟨fun h => h.resolve_left (fun e => c e.symm), .inr⟩
  rw [this]
  cases u <;> rfl
theorem try_step (h : Rec0 S M rd) {rec : Int → Int → List (Int × Int) → List Int → Int → Option Bool} {beg : List Int} {z : Int} (hz : vloop S M rd none false 0 beg = .inr z) (hlen : beg.length ≤ 60) {v : Int} (h0 : 0 ≤ v) (hv : v < rd.length) :
 F33l0 rec S M rd beg z v = if v ∈ beg then F33l0 rec S M rd beg z (v + 1) else if linkOk S M (lastRd rd none beg) (flips false beg) (rd.getD v.toNat (0, 0)) then
  (rec S M rd (beg ++ [v]) (if flips false beg then z - (rd.getD v.toNat (0, 0)).2 else z + (rd.getD v.toNat (0, 0)).2)).bind fun r => if r then F33l0 rec S M rd beg z (v + 1) else some (.inl ())
  else F33l0 rec S M rd beg z (v + 1) := by
 have hs := h.s
 have hm := h.m
 have hl := h.len
 have bd := vloop_bd h _ _ _ _ _ hz
 have hin := vloop_mem _ _ _ _ _ hz
 have hyv := h.val _ (getD_mem (rd := rd) (j := v.toNat) (by omega))
 rw [F33l0, if_pos (by simp; omega), if_pos ⟨h0, hv⟩]
 simp only [Option.bind_eq_bind, Option.bind_some]
 rw [used_loop (by omega) beg.length 0 false (Int.le_refl _) (by omega)]
 simp only [Option.bind_some, Bool.false_or, Int.toNat_zero, List.drop_zero]
 rw [w64_in (x := v + 1) (by omega) (by omega)]
 by_cases cu : v ∈ beg
 · rw [if_pos (by simpa using cu), if_pos cu]
 rw [if_neg (by simpa using cu), if_neg cu]
 generalize rd.getD v.toNat (0, 0) = y at hyv ⊢
 simp only [tmod_two]
 have fl := flips_eq beg false
 by_cases c0 : beg.length > 0
 · have hne : beg ≠ [] := fun e => by rw [e] at c0; simp at c0
   rw [if_pos (by simp only [decide_eq_true_eq]; omega), lastRd_eq beg none hne]
   have e1 : w64 ((beg.length : Int) - 1) = ((beg.length - 1 : Nat) : Int) := by rw [w64_in (by omega) (by omega)]; omega
   rw [e1, if_pos ⟨by omega, by omega⟩]
   simp only [Int.toNat_natCast]
   rw [if_pos (getD_all (d := 0) hin (by omega : beg.length - 1 < beg.length))]
   have e2 : rd.getD (beg.getD (beg.length - 1) 0).toNat (0, 0) = rdAt rd beg (beg.length - 1) := rfl
   rw [e2]
   generalize rdAt rd beg (beg.length - 1) = p
   by_cases c1 : beg.length % 2 = 1
   · rw [decide_eq_true c1] at fl
     have fl : flips false beg = true := fl
     rw [if_pos (show (((beg.length % 2 : Nat) : Int) == 1) = true by rw [c1]; rfl), if_neg (by omega), fl]
     by_cases cl : Int.tmod p.1 S = Int.tmod y.1 S
     · rw [if_neg (by rw [cl]; simp), if_neg (show ¬ (((beg.length % 2 : Nat) : Int) == 0) = true by rw [c1]; decide)]
       simp only [Option.bind_some, Bool.false_eq_true, if_false]
       rw [if_pos (show (((beg.length % 2 : Nat) : Int) == 1) = true by rw [c1]; rfl), if_pos (show linkOk S M (some p) true y from cl)]
       simp only [Option.bind_some, if_true]
       rw [if_pos (by omega), w64_in (x := 0 - y.2) (by omega) (by omega), w64_in (x := z + (0 - y.2)) (by omega) (by omega), show z + (0 - y.2) = z - y.2 by omega]
       congr 1
       funext r
       cases r <;> rfl
     rw [if_pos (by simpa using fun e => cl e.symm)]
     simp only [Option.bind_some, if_true]
     rw [if_neg (show ¬ linkOk S M (some p) true y from cl)]
   rw [decide_eq_false c1] at fl
   have fl : flips false beg = false := fl
   have c2 : beg.length % 2 = 0 := by omega
   rw [if_neg (show ¬ (((beg.length % 2 : Nat) : Int) == 1) = true by rw [c2]; decide), if_pos (show (((beg.length % 2 : Nat) : Int) == 0) = true by rw [c2]; rfl), if_neg (by omega), fl]
   simp only [Option.bind_some]
   by_cases cl : Int.tmod p.1 M = Int.tmod y.1 M
   · rw [if_neg (by rw [cl]; simp), if_neg (show ¬ (((beg.length % 2 : Nat) : Int) == 1) = true by rw [c2]; decide), if_pos (show linkOk S M (some p) false y from cl)]
     simp only [Option.bind_some, Bool.false_eq_true, if_false]
     rw [if_pos (by omega), w64_in (x := z + y.2) (by omega) (by omega)]
     congr 1
     funext r
     cases r <;> rfl
   rw [if_pos (by simpa using fun e => cl e.symm), if_neg (show ¬ linkOk S M (some p) false y from cl)]
   rfl
 have hb : beg = [] := List.length_eq_zero_iff.1 (by omega)
 subst hb
 rw [if_neg (by simp)]
 rw [if_neg (by decide), if_pos (show linkOk S M (lastRd rd none []) (flips false []) y from trivial)]
 simp only [Option.bind_some]
 rw [if_pos (by simp), w64_in (x := z + y.2) (by simp at bd; omega) (by simp at bd; omega)]
 show Option.bind (rec S M rd ([] ++ [v]) (z + y.2)) _ = Option.bind (rec S M rd ([] ++ [v]) (z + y.2)) _
 congr 1
 funext r
 cases r <;> rfl
theorem try_loop (h : Rec0 S M rd) {rec : Int → Int → List (Int × Int) → List Int → Int → Option Bool} {beg : List Int} {z : Int} (hz : vloop S M rd none false 0 beg = .inr z) (hlen : beg.length ≤ 60)
 (hrec : ∀ (i z' : Int), i ∉ beg → vloop S M rd none false 0 (beg ++ [i]) = .inr z' → (rec S M rd (beg ++ [i]) z' = some true ∧ ¬ BadFrom S M rd (beg ++ [i])) ∨ (rec S M rd (beg ++ [i]) z' = some false ∧ BadFrom S M rd (beg ++ [i]))) :
 ∀ (d : Nat) (v : Int), 0 ≤ v → v + d = rd.length → (F33l0 rec S M rd beg z v = some (.inl ()) ∧ ∃ i, BadFrom S M rd (beg ++ [i])) ∨ (F33l0 rec S M rd beg z v = some (.inr ()) ∧ ∀ i, v ≤ i → i < rd.length → ¬ BadFrom S M rd (beg ++ [i])) := by
 have hl := h.len
 intro d
 induction d with
 | zero =>
  intro v h0 hd
  right
  exact ⟨by rw [F33l0, if_neg (by simp; omega)], fun i a b => by omega⟩
 | succ d ih =>
  intro v h0 hd
  rw [try_step h hz hlen h0 (by omega)]
  have next := ih (v + 1) (by omega) (by omega)
  have more : ¬ BadFrom S M rd (beg ++ [v]) → (F33l0 rec S M rd beg z (v + 1) = some (.inl ()) ∧ ∃ i, BadFrom S M rd (beg ++ [i])) ∨ (F33l0 rec S M rd beg z (v + 1) = some (.inr ()) ∧ ∀ i, v ≤ i → i < rd.length → ¬ BadFrom S M rd (beg ++ [i])) := fun hb => by
   rcases next with a | ⟨a, b⟩
   · exact .inl a
   right
   refine ⟨a, fun i x y => ?_⟩
   by_cases e : i = v
   · rw [e]; exact hb
   exact b i (by omega) y
  by_cases cu : v ∈ beg
  · rw [if_pos cu]
    exact more fun hb => (hb.step hz).2.1 cu
  rw [if_neg cu]
  by_cases cl : linkOk S M (lastRd rd none beg) (flips false beg) (rd.getD v.toNat (0, 0))
  · rw [if_pos cl]
    have hv : vloop S M rd none false 0 (beg ++ [v]) = .inr (if flips false beg then z - (rd.getD v.toNat (0, 0)).2 else z + (rd.getD v.toNat (0, 0)).2) := by
     rw [vloop_app, hz]
     simp only [vloop]
     rw [if_pos ⟨h0, by omega⟩, if_pos cl]
    rcases hrec v _ cu hv with ⟨a, b⟩ | ⟨a, b⟩
    · rw [a]
      exact more b
    rw [a]
    exact .inl ⟨rfl, v, b⟩
  rw [if_neg cl]
  exact more fun hb => cl (hb.step hz).2.2
theorem rings_ok (h : Rec0 S M rd) : ∀ (k : Nat) (beg : List Int) (z : Int), vloop S M rd none false 0 beg = .inr z → beg.Nodup → rd.length + 1 ≤ k + beg.length →
 (F33 k S M rd beg z = some true ∧ ¬ BadFrom S M rd beg) ∨ (F33 k S M rd beg z = some false ∧ BadFrom S M rd beg) := by
 have hm := h.m
 have hl := h.len
 have few : ∀ (beg : List Int) (z : Int), vloop S M rd none false 0 beg = .inr z → beg.Nodup → beg.length ≤ rd.length := fun beg z hz hn => by
  have := len_le_sub (m := (List.range rd.length).map fun i : Nat => (i : Int)) hn (fun i hi => by
   have := vloop_mem _ _ _ _ _ hz i hi
   exact List.mem_map.2 ⟨i.toNat, List.mem_range.2 (by omega), by omega⟩)
  simpa using this
 intro k
 induction k with
 | zero =>
  intro beg z hz hn hk
  have := few beg z hz hn
  omega
 | succ k ih =>
  intro beg z hz hn hk
  have hf := few beg z hz hn
  have hin := vloop_mem _ _ _ _ _ hz
  show (F33b (F33 k) S M rd beg z = some true ∧ _) ∨ (F33b (F33 k) S M rd beg z = some false ∧ _)
  have rest : verdict S M rd beg ≠ 0 → ((F33l0 (F33 k) S M rd beg z 0).bind fun r208 => match r208 with | .inl o210 => some false | .inr o211 => some true) = some true ∧ ¬ BadFrom S M rd beg ∨
   ((F33l0 (F33 k) S M rd beg z 0).bind fun r208 => match r208 with | .inl o210 => some false | .inr o211 => some true) = some false ∧ BadFrom S M rd beg := fun hv => by
   rcases try_loop h (rec := F33 k) hz (by omega) (fun i z' hi hz' => ih _ _ hz' (List.nodup_append.2 ⟨hn, by simp, fun a ha b hb => by rw [List.mem_singleton.1 hb]; exact fun e => hi (e ▸ ha)⟩) (by simp; omega)) rd.length 0 (Int.le_refl _) (by omega) with ⟨a, i, b⟩ | ⟨a, b⟩
   · right
     rw [a]
     obtain ⟨e, x, y⟩ := b
     rw [List.append_assoc] at x y
     exact ⟨rfl, _, x, y⟩
   left
   rw [a]
   refine ⟨rfl, fun hb => ?_⟩
   obtain ⟨e, x, y⟩ := hb
   cases e with
   | nil => rw [List.append_nil] at y; exact hv y
   | cons i e =>
    have hb : BadFrom S M rd (beg ++ [i]) := ⟨e, by rw [List.append_assoc]; exact x, by rw [List.append_assoc]; exact y⟩
    have := (hb.step hz).1
    exact b i (by omega) (by omega) hb
  unfold F33b
  simp only [Option.bind_eq_bind, tmod_two]
  by_cases c0 : beg.length > 0
  · rw [if_pos (by simp only [decide_eq_true_eq]; omega)]
    by_cases c2 : beg.length % 2 = 0
    · have e1 : w64 ((beg.length : Int) - 1) = ((beg.length - 1 : Nat) : Int) := by rw [w64_in (by omega) (by omega)]; omega
      rw [if_pos (show (((beg.length % 2 : Nat) : Int) == 0) = true by rw [c2]; rfl), if_pos ⟨Int.le_refl _, by omega⟩]
      simp only [Option.bind_some, e1, Int.toNat_natCast, Int.toNat_zero]
      rw [if_pos (getD_all (d := 0) hin c0), if_neg (by omega), if_pos ⟨by omega, by omega⟩, if_pos (getD_all (d := 0) hin (by omega : beg.length - 1 < beg.length))]
      have r0 : rd.getD (beg.getD 0 0).toNat (0, 0) = rdAt rd beg 0 := rfl
      have r1 : rd.getD (beg.getD (beg.length - 1) 0).toNat (0, 0) = rdAt rd beg (beg.length - 1) := rfl
      rw [r0, r1]
      by_cases cl : Int.tmod (rdAt rd beg 0).1 M = Int.tmod (rdAt rd beg (beg.length - 1)).1 M
      · rw [if_pos (by rw [cl]; simp)]
        simp only [Option.bind_some]
        by_cases cz : z = 0
        · rw [if_neg (by simpa using cz)]
          exact rest fun hv => by
           obtain ⟨_, z', a, b, _⟩ := (verdict_iff _).1 hv
           rw [hz] at a
           cases a
           exact b cz
        rw [if_pos (by simpa using cz)]
        right
        exact ⟨rfl, [], by rwa [List.append_nil], by rw [List.append_nil]; exact (verdict_iff _).2 ⟨⟨by omega, c2⟩, z, hz, cz, cl⟩⟩
      rw [if_neg (by simpa using cl)]
      simp only [Option.bind_some, Bool.false_eq_true, if_false]
      exact rest fun hv => by
       obtain ⟨_, z', _, _, b⟩ := (verdict_iff _).1 hv
       exact cl b
    rw [if_neg (show ¬ (((beg.length % 2 : Nat) : Int) == 0) = true by rw [show beg.length % 2 = 1 by omega]; decide)]
    simp only [Option.bind_some, Bool.false_eq_true, if_false]
    exact rest fun hv => by
     obtain ⟨⟨_, a⟩, _⟩ := (verdict_iff _).1 hv
     exact c2 a
  rw [if_neg (by simp only [decide_eq_true_eq]; omega)]
  simp only [Option.bind_some, Bool.false_eq_true, if_false]
  exact rest fun hv => by
   obtain ⟨⟨⟨a, _⟩, _⟩, _⟩ := (verdict_iff _).1 hv
   omega
theorem rings_good (h : Rec0 S M rd) (ha : Asc rd) : ∃ b, F33 64 S M rd [] 0 = some b ∧ (b = true ↔ ∃ w, plain.Good (edges S M rd) w) := by
 have hl := h.len
 obtain ⟨out, P, W, B⟩ := both_of h ha
 have key : BadFrom S M rd [] ↔ ¬ ∃ w, plain.Good (edges S M rd) w := by
  constructor
  · rintro ⟨r, _, hv⟩ ⟨w, hw⟩
    exact verdict_good (good_rd.1 hw) _ hv
  intro hg
  obtain ⟨r, _, r2, r3, m, Z, r4, r5, r6, _, hn⟩ := B.bad_clash (fun hw => hg ⟨_, hw⟩)
  exact ⟨r, hn, trail_verdict r4 r5 r6 r2 r3⟩
 rcases rings_ok h 64 [] 0 rfl (by simp) (by simp; omega) with ⟨a, b⟩ | ⟨a, b⟩
 · exact ⟨true, a, fun _ => Classical.byContradiction fun hc => b (key.2 hc), fun _ => rfl⟩
 exact ⟨false, a, fun h => (by cases h), fun h => absurd h (key.1 b)⟩
end
end Go.Proofs.Ytdekbjfjbbdjgaa.plain
