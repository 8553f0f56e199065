/- The reference: how far cases lie, and what is possible. -/
import Derived.Test.YtiaippkjgmccoaaLK2
import Derived.Test.YtiaippkjgmccoaaKD
set_option linter.unusedVariables false
namespace Go.Proofs.Ytiaippkjgmccoaa.plain
open Go Go.Cl
section
variable {T : Int} {rs : Rules} {l : List Case}
noncomputable def chk2 (T : Int) (rs : Rules) (l : List Case) : Int := if chk T rs ≠ 0 then chk T rs else if l.length > 24 then 3 else if inC T l then 0 else 6
def nm (c : Case) : Nat := 2 * c.1.toNat + c.2.toNat
theorem nm_lt {c : Case} (h : okC T c) : nm c < 2 * T.toNat := by
 unfold nm
 have := h.1; have := h.2; have := Bool.toNat_le c.2
 omega
theorem nm_inj {a b : Case} (ha : okC T a) (hb : okC T b) (h : nm a = nm b) : a = b := by
 obtain ⟨a1, a2⟩ := a
 obtain ⟨b1, b2⟩ := b
 have := ha.1; have := hb.1
 unfold nm at h
 dsimp only at *
 have e1 : a1 = b1 := by
  have := Bool.toNat_le a2; have := Bool.toNat_le b2
  omega
 subst e1
 cases a2 <;> cases b2 <;> first | rfl | (simp at h)
theorem F71_eq {c : Case} (hT : T ≤ 24) (h : okC T c) : F71 c.1 c.2 = some (nm c : Int) := by
 obtain ⟨t, i⟩ := c
 have h0 : 0 ≤ t := h.1
 have h1 : t < T := h.2
 unfold F71 nm
 have e : w64 (2 * t) = 2 * t := w64_in (by omega) (by omega)
 rw [e]
 cases i
 · simp; omega
 rw [if_pos rfl, w64_in (by omega) (by omega)]; simp; omega
theorem F76_eq (c : Case) : F76 c.1 c.2 = some (ctr c) := rfl
def lv (out : List Int) (y : Case) : Int := out.getD (nm y) 0
structure Lev (T : Int) (rs : Rules) (x : Case) (n : Int) (dn : List (Case × Case)) (out : List Int) : Prop where
 len : out.length = 2 * T.toNat
 rng : ∀ y, okC T y → 0 ≤ lv out y ∧ lv out y ≤ n + 1
 one : ∀ y, okC T y → (lv out y = 1 ↔ y = x)
 par : ∀ y, okC T y → ∀ k, 1 ≤ k → lv out y = k + 1 → ∃ z, okC T z ∧ lv out z = k ∧ Leads rs z y
 cl : ∀ y, okC T y → 1 ≤ lv out y → lv out y < n → ∀ z, Leads rs y z → 1 ≤ lv out z ∧ lv out z ≤ lv out y + 1
 now : ∀ y z, (y, z) ∈ dn → lv out y = n → 1 ≤ lv out z
theorem lv_set {out : List Int} {y u : Case} {n : Int} (hl : out.length = 2 * T.toNat) (hy : okC T y) (hu : okC T u) : lv (out.set (nm u) n) y = if y = u then n else lv out y := by
 have h1 := nm_lt hy
 unfold lv
 rw [List.getD_eq_getElem?_getD, List.getD_eq_getElem?_getD, List.getElem?_set]
 by_cases e : y = u
 · subst e
   rw [if_pos rfl, if_pos rfl, if_pos (by omega)]
   rfl
 rw [if_neg e, if_neg (fun h => e (nm_inj hu hy h).symm)]
def half (n : Int) (out : List Int) (u w : Case) : List Int := if lv out u = n ∧ lv out w = 0 then out.set (nm w) (n + 1) else out
theorem Lev.half {x : Case} {n : Int} {dn : List (Case × Case)} {out : List Int} (hv : okR T rs) (hn : 1 ≤ n) (P : Lev T rs x n dn out) {u w : Case} (hu : okC T u) (hl : Leads rs u w) (hdn : ∀ y z, (y, z) ∈ dn → okC T y ∧ okC T z) : Lev T rs x n (dn ++ [(u, w)]) (half n out u w) := by
 have hw : okC T w := leads_ok hv hl
 unfold plain.half
 by_cases h : lv out u = n ∧ lv out w = 0
 · rw [if_pos h]
   have st : ∀ {y}, okC T y → lv (out.set (nm w) (n + 1)) y = if y = w then n + 1 else lv out y := fun hy => lv_set P.len hy hw
   have old : ∀ {y}, okC T y → 1 ≤ lv out y → lv (out.set (nm w) (n + 1)) y = lv out y := fun hy h1 => by
    rw [st hy, if_neg (fun e => by rw [e] at h1; omega)]
   have up : ∀ {y}, okC T y → 1 ≤ lv out y → 1 ≤ lv (out.set (nm w) (n + 1)) y := fun hy h1 => by rw [old hy h1]; exact h1
   refine ⟨by rw [List.length_set]; exact P.len, fun y hy => ?_, fun y hy => ?_, fun y hy k hk e => ?_, fun y hy h1 h2 z hz => ?_, fun y z hm e => ?_⟩
   · rw [st hy]
     split
     · omega
     exact P.rng y hy
   · rw [st hy]
     split
     · rename_i e
       constructor
       · intro h; omega
       intro ex
       have := (P.one y hy).2 ex
       rw [e] at this
       omega
     exact P.one y hy
   · rw [st hy] at e
     by_cases ew : y = w
     · rw [if_pos ew] at e
       refine ⟨u, hu, ?_, by rw [ew]; exact hl⟩
       rw [old hu (by omega)]
       omega
     rw [if_neg ew] at e
     obtain ⟨z, hz, e1, e2⟩ := P.par y hy k hk e
     exact ⟨z, hz, by rw [old hz (by omega)]; exact e1, e2⟩
   · by_cases ew : y = w
     · rw [st hy, if_pos ew] at h2; omega
     rw [st hy, if_neg ew] at h1 h2 ⊢
     obtain ⟨a, b⟩ := P.cl y hy h1 h2 z hz
     rw [old (leads_ok hv hz) a]
     exact ⟨a, b⟩
   rcases List.mem_append.1 hm with hm | hm
   · obtain ⟨hy, hz⟩ := hdn y z hm
     by_cases ew : y = w
     · rw [st hy, if_pos ew] at e; omega
     rw [st hy, if_neg ew] at e
     exact up hz (P.now y z hm e)
   simp at hm
   obtain ⟨_, e2⟩ := hm
   rw [e2, st hw, if_pos rfl]
   omega
 rw [if_neg h]
 refine ⟨P.len, P.rng, P.one, P.par, P.cl, fun y z hm e => ?_⟩
 rcases List.mem_append.1 hm with hm | hm
 · exact P.now y z hm e
 simp at hm
 obtain ⟨e1, e2⟩ := hm
 rw [e1] at e
 have := (P.rng w hw).1
 rw [e2]
 have : lv out w ≠ 0 := fun h0 => h ⟨e, h0⟩
 omega
def edg (rs : Rules) : List (Case × Case) := rs.flatMap fun r => [(ctr r.1, r.2), (ctr r.2, r.1)]
theorem edg_iff {y z : Case} : Leads rs y z ↔ (y, z) ∈ edg rs := by
 unfold Leads edg
 rw [List.mem_flatMap]
 constructor
 · rintro ⟨r, hr, ⟨a, b⟩ | ⟨a, b⟩⟩
   · exact ⟨r, hr, by rw [a, b, ctr_ctr]; exact List.mem_cons_self⟩
   exact ⟨r, hr, by rw [a, b, ctr_ctr]; exact List.mem_cons_of_mem _ List.mem_cons_self⟩
 rintro ⟨r, hr, h⟩
 rcases List.mem_cons.1 h with h | h
 · cases h; exact ⟨r, hr, .inl ⟨(ctr_ctr _).symm, rfl⟩⟩
 rw [List.mem_singleton] at h; cases h; exact ⟨r, hr, .inr ⟨(ctr_ctr _).symm, rfl⟩⟩
theorem half_code {γ : Type} {n : Int} {out : List Int} {u w : Case} (hT : T ≤ 24) (hn : w64 (n + 1) = n + 1) (hlen : out.length = 2 * T.toNat) (hu : okC T u) (hw : okC T w) (K : List Int → Option γ) :
 (if (0 : Int) ≤ (nm u : Int) ∧ (nm u : Int) < (out.length : Int) then
  (some (List.getD out (Int.toNat (nm u : Int)) 0)).bind fun o491 =>
  (if (o491 == n) = true then (F71 w.1 w.2).bind fun r494 => if (0 : Int) ≤ r494 ∧ r494 < (out.length : Int) then (some (List.getD out (Int.toNat r494) 0)).bind fun o497 => some (o497 == 0) else none else some false).bind fun m499 =>
  (if m499 = true then (F71 w.1 w.2).bind fun r530 => if (0 : Int) ≤ r530 ∧ r530 < (out.length : Int) then some (List.set out (Int.toNat r530) (w64 (n + 1))) else none else some out).bind K
 else none) = K (half n out u w) := by
 have h1 := nm_lt hu
 have h2 := nm_lt hw
 rw [if_pos ⟨by omega, by omega⟩, F71_eq hT hw, hn]
 simp only [Option.bind_some, Int.toNat_natCast]
 have c2 : (0 : Int) ≤ (nm w : Int) ∧ (nm w : Int) < (out.length : Int) := ⟨by omega, by omega⟩
 rw [if_pos c2, if_pos c2]
 unfold half lv
 by_cases a : out.getD (nm u) 0 = n
 · rw [if_pos (by simpa using a)]
   simp only [Option.bind_some]
   by_cases b : out.getD (nm w) 0 = 0
   · rw [if_pos (by simpa using b), if_pos ⟨a, b⟩]; rfl
   rw [if_neg (by simpa using b), if_neg (fun h => b h.2)]; rfl
 rw [if_neg (by simpa using a), if_neg (fun h => a h.1)]
 rfl
theorem level_loop (hv : okR T rs) (hT : T ≤ 24) (hrs : rs.length ≤ 100) {x : Case} {n : Int} (hn : 1 ≤ n) (hn2 : n ≤ 1000) : ∀ (d v : Nat) (out : List Int), v + d = rs.length → Lev T rs x n (edg (rs.take v)) out →
 ∃ out', F70l1 T rs n v out = some out' ∧ Lev T rs x n (edg rs) out' := by
 have hwn : w64 (n + 1) = n + 1 := w64_in (by omega) (by omega)
 have hed : ∀ v y z, (y, z) ∈ edg (rs.take v) → okC T y ∧ okC T z := fun v y z h => by
  obtain ⟨r, hr, h⟩ := List.mem_flatMap.1 h
  have := hv r (List.mem_of_mem_take hr)
  rcases List.mem_cons.1 h with h | h
  · cases h; exact ⟨okC_ctr.2 this.1, this.2⟩
  rw [List.mem_singleton] at h; cases h; exact ⟨okC_ctr.2 this.2, this.1⟩
 intro d
 induction d with
 | zero =>
  intro v out hd P
  rw [List.take_of_length_le (by omega)] at P
  exact ⟨out, by rw [F70l1, if_neg (by simp; omega)], P⟩
 | succ d ih =>
  intro v out hd P
  have hlt : v < rs.length := by omega
  have hget : rs.getD v ((0, false), (0, false)) = rs[v] := by rw [List.getD_eq_getElem?_getD, List.getElem?_eq_getElem hlt]; rfl
  have hmem : rs[v] ∈ rs := List.getElem_mem _
  have htake : edg (rs.take (v + 1)) = (edg (rs.take v) ++ [(ctr rs[v].1, rs[v].2)]) ++ [(ctr rs[v].2, rs[v].1)] := by
   rw [List.take_add_one, List.getElem?_eq_getElem hlt]
   unfold edg
   rw [List.flatMap_append]
   simp
  have w1 : w64 ((v : Int) + 1) = ((v + 1 : Nat) : Int) := by rw [w64_in (by omega) (by omega)]; omega
  obtain ⟨oa, ob⟩ := hv _ hmem
  have l1 : Leads rs (ctr rs[v].1) rs[v].2 := ⟨rs[v], hmem, .inl ⟨(ctr_ctr _).symm, rfl⟩⟩
  have l2 : Leads rs (ctr rs[v].2) rs[v].1 := ⟨rs[v], hmem, .inr ⟨(ctr_ctr _).symm, rfl⟩⟩
  have P1 := P.half hv hn (okC_ctr.2 oa) l1 (hed v)
  have P2 := P1.half hv hn (okC_ctr.2 ob) l2 (fun y z h => by
   rcases List.mem_append.1 h with h | h
   · exact hed v y z h
   rw [List.mem_singleton] at h; cases h; exact ⟨okC_ctr.2 oa, ob⟩)
  rw [← htake] at P2
  obtain ⟨out', f, P'⟩ := ih (v + 1) _ (by omega) P2
  refine ⟨out', ?_, P'⟩
  rw [← f, F70l1, if_pos (by simp; omega), if_pos ⟨by omega, by omega⟩, w1]
  simp only [Option.bind_eq_bind, Option.bind_some, show ((v : Int)).toNat = v from rfl, hget]
  rw [F76_eq rs[v].1, F76_eq rs[v].2]
  simp only [Option.bind_some]
  rw [F71_eq hT (okC_ctr.2 oa), F71_eq hT (okC_ctr.2 ob)]
  refine (half_code hT hwn P.len (okC_ctr.2 oa) ob _).trans ?_
  exact half_code hT hwn P1.len (okC_ctr.2 ob) oa fun m524 => F70l1 T rs n ((v + 1 : Nat) : Int) m524
theorem Lev.mem {x : Case} {n : Int} {dn : List (Case × Case)} {out : List Int} (P : Lev T rs x n dn out) (hx : okC T x) {y : Case} (hy : okC T y) : ∀ (j : Nat) (k : Int), 1 ≤ k → lv out y = k + j → ∃ z, okC T z ∧ lv out z = k := by
 intro j
 induction j with
 | zero => intro k _ h; exact ⟨y, hy, by simpa using h⟩
 | succ j ih =>
  intro k hk h
  obtain ⟨z, hz, e⟩ := ih (k + 1) (by omega) (by rw [h]; push_cast; omega)
  obtain ⟨w, hw, e2, _⟩ := P.par z hz k hk e
  exact ⟨w, hw, e2⟩
theorem Lev.top {x : Case} {n : Int} {dn : List (Case × Case)} {out : List Int} (P : Lev T rs x n dn out) (hx : okC T x) {y : Case} (hy : okC T y) : lv out y ≤ 2 * T.toNat := by
 refine Int.not_lt.1 fun h => ?_
 have sub : ∀ k ∈ (List.range (2 * T.toNat + 1)).map (fun i : Nat => (i : Int) + 1), k ∈ out := fun k hk => by
  obtain ⟨i, hi, e⟩ := List.mem_map.1 hk
  rw [List.mem_range] at hi
  obtain ⟨z, hz, e2⟩ := P.mem hx hy (lv out y - k).toNat k (by omega) (by omega)
  have := nm_lt hz
  unfold lv at e2
  rw [List.getD_eq_getElem?_getD, List.getElem?_eq_getElem (by rw [P.len]; exact this)] at e2
  rw [← e2]
  exact List.getElem_mem _
 have := len_le_sub (by
  rw [List.nodup_iff_pairwise_ne, List.pairwise_map]
  exact (List.nodup_iff_pairwise_ne.1 List.nodup_range).imp fun h e => h (by omega)) sub
 rw [List.length_map, List.length_range, P.len] at this
 omega
structure Far (T : Int) (rs : Rules) (x : Case) (out : List Int) : Prop where
 len : out.length = 2 * T.toNat
 rng : ∀ y, okC T y → 0 ≤ lv out y ∧ lv out y ≤ 2 * T.toNat
 one : ∀ y, okC T y → (lv out y = 1 ↔ y = x)
 par : ∀ y, okC T y → ∀ k, 1 ≤ k → lv out y = k + 1 → ∃ z, okC T z ∧ lv out z = k ∧ Leads rs z y
 cl : ∀ y, okC T y → 1 ≤ lv out y → ∀ z, Leads rs y z → 1 ≤ lv out z ∧ lv out z ≤ lv out y + 1
theorem Far.iff {x y : Case} {out : List Int} (hv : okR T rs) (hx : okC T x) (F : Far T rs x out) (hy : okC T y) : 0 < lv out y ↔ Reach rs x y := by
 constructor
 · intro h
   have go : ∀ (n : Nat) (y : Case), okC T y → lv out y = n + 1 → Reach rs x y := by
    intro n
    induction n with
    | zero => intro y hy e; rw [(F.one y hy).1 (by simpa using e)]; exact .refl
    | succ n ih =>
     intro y hy e
     obtain ⟨z, hz, e1, e2⟩ := F.par y hy ((n : Int) + 1) (by omega) (by rw [e]; push_cast; omega)
     exact (ih z hz e1).step e2
   exact go (lv out y - 1).toNat y hy (by omega)
 intro h
 have : okC T y ∧ 0 < lv out y := by
  clear hy
  induction h with
  | refl => exact ⟨hx, by rw [(F.one x hx).2 rfl]; decide⟩
  | step _ e ih => exact ⟨leads_ok hv e, by have := (F.cl _ ih.1 (by omega) _ e).1; omega⟩
 exact this.2
theorem Lev.next {x : Case} {n : Int} {out : List Int} (hv : okR T rs) (hn : 1 ≤ n) (P : Lev T rs x n (edg rs) out) : Lev T rs x (n + 1) (edg (rs.take 0)) out := by
 refine ⟨P.len, fun y hy => ⟨(P.rng y hy).1, by have := (P.rng y hy).2; omega⟩, P.one, P.par, fun y hy h1 h2 z hz => ?_, fun y z h => by cases h⟩
 by_cases e : lv out y = n
 · have := (P.rng z (leads_ok hv hz)).2
   exact ⟨P.now y z (edg_iff.1 hz) e, by omega⟩
 exact P.cl y hy h1 (by omega) z hz
theorem far_loop (hv : okR T rs) (hT : T ≤ 24) (hrs : rs.length ≤ 100) {x : Case} (hx : okC T x) : ∀ (d : Nat) (n : Int) (out : List Int), 1 ≤ n → n + d = 2 * T.toNat + 1 → Lev T rs x n (edg (rs.take 0)) out → ∃ out', F70l0 T rs n out = some out' ∧ Far T rs x out' := by
 intro d
 induction d with
 | zero =>
  intro n out hn hd P
  refine ⟨out, by rw [F70l0, if_neg (by rw [P.len]; simp; omega)], P.len, fun y hy => ⟨(P.rng y hy).1, P.top hx hy⟩, P.one, P.par, fun y hy h1 => P.cl y hy h1 (by have := P.top hx hy; omega)⟩
 | succ d ih =>
  intro n out hn hd P
  obtain ⟨o1, f1, P1⟩ := level_loop hv hT hrs hn (by omega) rs.length 0 out (by omega) P
  obtain ⟨o2, f2, F⟩ := ih (n + 1) o1 (by omega) (by omega) (P1.next hv hn)
  refine ⟨o2, ?_, F⟩
  rw [F70l0, if_pos (by rw [P.len]; simp; omega), show (0 : Int) = ((0 : Nat) : Int) from rfl, f1]
  simp only [Option.bind_eq_bind, Option.bind_some]
  rw [w64_in (by omega) (by omega)]
  exact f2
theorem F70_eq (hv : okR T rs) (hT : T ≤ 24) (hrs : rs.length ≤ 100) {x : Case} (hx : okC T x) : ∃ out, F70 T rs x.1 x.2 = some out ∧ Far T rs x out := by
 have h0 := hx.1; have h1 := hx.2
 have e : w64 (2 * T) = 2 * T := w64_in (by omega) (by omega)
 have hl : (List.replicate (2 * T).toNat (0 : Int)).length = 2 * T.toNat := by rw [List.length_replicate]; omega
 have hnx := nm_lt hx
 have z0 : ∀ y, okC T y → lv ((List.replicate (2 * T).toNat (0 : Int)).set (nm x) 1) y = if y = x then 1 else 0 := fun y hy => by
  rw [lv_set hl hy hx]
  have : lv (List.replicate (2 * T).toNat (0 : Int)) y = 0 := by
   unfold lv
   rw [List.getD_eq_getElem?_getD, List.getElem?_replicate]
   split <;> rfl
  rw [this]
 obtain ⟨out, f, F⟩ := far_loop hv hT hrs hx (2 * T.toNat) 1 ((List.replicate (2 * T).toNat (0 : Int)).set (nm x) 1) (Int.le_refl _) (by omega) ⟨by rw [List.length_set]; exact hl, fun y hy => by rw [z0 y hy]; split <;> omega, fun y hy => by rw [z0 y hy]; split <;> simp_all, fun y hy k hk h => by rw [z0 y hy] at h; split at h <;> omega, fun y hy a b => by rw [z0 y hy] at a b; split at a <;> simp_all <;> omega, fun y z h => by cases h⟩
 refine ⟨out, ?_, F⟩
 unfold F70
 rw [e, if_pos ⟨by omega, by omega⟩, F71_eq hT hx]
 simp only [Option.bind_eq_bind, Option.bind_some]
 rw [if_pos ⟨by omega, by rw [hl]; omega⟩, Int.toNat_natCast, f]
 rfl
end
end Go.Proofs.Ytiaippkjgmccoaa.plain
