/- The sign of a polynomial at an argument, as an answer that needs no steps. -/
import Derived.Test.YtfebcljpgcahbaaGreatGS
import Derived.Test.YtfebcljpgcahbaaGreatW1
set_option linter.unusedVariables false
set_option linter.unusedSimpArgs false
namespace Go.Proofs.YtfebcljpgcahbaaGreat
open Go Go.Cl
def sgnL (u d : Int) (cs : List Int) : Int × Int := cs.foldr (fun c s => (w64 (w64 (s.1 * u) + w64 (c * s.2)), w64 (s.2 * d))) (0, 1)
theorem F62_at (l : List Int) (u d : Int) (hl : l.length < 1000) : ∀ (k : Nat) (m : List Int) (s : Int × Int), k ≤ l.length → l.drop k = m →
    F62l0 l u d ((k : Int) - 1) s.1 s.2 = some ((l.take k).foldr (fun c s => (w64 (w64 (s.1 * u) + w64 (c * s.2)), w64 (s.2 * d))) s)
  | 0, m, s, _, _ => by
    rw [F62l0, if_neg (by simp)]
    rfl
  | k + 1, m, s, hk, hm => by
    have hkl : k < l.length := by omega
    rw [F62l0, if_pos (by simp only [decide_eq_true_eq]; omega), if_pos (by omega)]
    have e1 : Int.toNat (((k + 1 : Nat) : Int) - 1) = k := by omega
    have e2 : w64 (((k + 1 : Nat) : Int) - 1 - 1) = (k : Int) - 1 := by rw [w64_in (by omega) (by omega)]; omega
    rw [e1, e2]
    show F62l0 l u d ((k : Int) - 1) _ _ = _
    have := F62_at l u d hl k _ (w64 (w64 (s.1 * u) + w64 (l.getD k 0 * s.2)), w64 (s.2 * d)) (by omega) rfl
    rw [this]
    have e3 : l.take (k + 1) = l.take k ++ [l.getD k 0] := by
      rw [List.take_add_one, List.getD_eq_getElem?_getD, List.getElem?_eq_getElem hkl]
      rfl
    rw [e3, List.foldr_append]
    rfl
theorem F62_eq (l : List Int) (u d : Int) (hl : l.length < 1000) : F62 l u d = some (mn 1 (mx (-1) (sgnL u d l).1)) := by
  unfold F62
  have := F62_at l u d hl l.length _ (0, 1) (Nat.le_refl _) rfl
  rw [w64_in (by omega) (by omega), this, List.take_length]
  rfl
def intsOf : List Value → Option (List Int)
  | [] => some []
  | .int .i64 x :: l => match intsOf l with | some m => some (x :: m) | none => none
  | _ => none
theorem intsOf_eq : ∀ {vs : List Value} {l : List Int}, intsOf vs = some l → vs = l.flatMap e3
  | [], l, h => by cases h; rfl
  | v :: vs, l, h => by
    unfold intsOf at h
    split at h
    · rename_i he; cases he
    · rename_i x l' he
      cases he
      split at h
      · rename_i m hm
        cases h
        rw [intsOf_eq hm]
        rfl
      · cases h
    · cases h
def sumSign : List Value → List Blk → Option (Value × List Blk)
  | [.slice (some ⟨b, 0, none⟩) n c, .agg ⟨[.int .i64 u, .int .i64 d]⟩], h =>
    match h[b]? with
    | some (.cells 3 vs) =>
      match intsOf vs with
      | some l => if l.length = n ∧ n < 1000 ∧ 0 < n then some (.int .i64 (mn 1 (mx (-1) (sgnL u d l).1)), []) else none
      | none => none
    | _ => none
  | _, _ => none
theorem sumSign_ok {args : List Value} {h new : List Blk} {v : Value} (hs : sumSign args h = some (v, new)) : PureSim Tryz.prog 62 args h v new := by
  unfold sumSign at hs
  split at hs
  · rename_i b n c u d
    split at hs
    · rename_i vs hb
      split at hs
      · rename_i l hl
        split at hs
        · rename_i hn
          cases hs
          obtain ⟨h1, h2, h3⟩ := hn
          subst h1
          have hP := C62 l u d _ (F62_eq l u d h2)
          have hvs := intsOf_eq hl
          refine PureSim.ren (fun i => (b, 0)) hP (.cons ?_ (.nil 1)) (.cons ?_ (.cons (.flat rfl) .nil)) (.flat rfl) (fun b hb => by cases hb)
          · exact At.accU (enc := e3) (l := l) (by show h[b]? = _; rw [hb, hvs]) rfl (fun y => rfl)
          · by_cases hc : c ≤ UNK
            · exact Rn.any (p := true) 0 0 0 l.length c ANY (by simp) rfl rfl (by decide)
            · exact Rn.any (p := true) 0 0 0 l.length c ANY (by simp) rfl rfl (by decide)
        · cases hs
      · cases hs
    · cases hs
  · cases hs
def chgO (a b c : Int) : Option Int :=
  some a >>= fun r3 =>
  if r3 == 0 then
    some b >>= fun r9 =>
    if r9 == 0 then
      some c >>= fun r15 =>
      if r15 == 0 then
        some 0
      else
        some 0
    else
      some c >>= fun r21 =>
      if r21 == 0 then
        some 0
      else
        (
          if r9 != 0 then
            some (r21 != r9)
          else
            some (false)
        : Option Bool) >>= fun m26 =>
        (
          if m26 then
            some 1
          else
            some 0
        : Option Int) >>= fun m29 =>
        some m29
  else
    some b >>= fun r34 =>
    if r34 == 0 then
      some c >>= fun r40 =>
      if r40 == 0 then
        some 0
      else
        (
          if r3 != 0 then
            some (r40 != r3)
          else
            some (false)
        : Option Bool) >>= fun m45 =>
        (
          if m45 then
            some 1
          else
            some 0
        : Option Int) >>= fun m48 =>
        some m48
    else
      (
        if r3 != 0 then
          some (r34 != r3)
        else
          some (false)
      : Option Bool) >>= fun m52 =>
      (
        if m52 then
          some 1
        else
          some 0
      : Option Int) >>= fun m55 =>
      some c >>= fun r59 =>
      if r59 == 0 then
        some m55
      else
        (
          if r34 != 0 then
            some (r59 != r34)
          else
            some (false)
        : Option Bool) >>= fun m64 =>
        (
          if m64 then
            some (w64 (m55 + 1))
          else
            some m55
        : Option Int) >>= fun m67 =>
        some m67

def sg (u d : Int) (l : List Int) : Int := mn 1 (mx (-1) (sgnL u d l).1)
theorem F107_eq (l m n : List Int) (u d : Int) (hl : l.length < 1000) (hm : m.length < 1000) (hn : n.length < 1000) : F107 l m n u d = chgO (sg u d l) (sg u d m) (sg u d n) := by
  unfold F107
  rw [F62_eq l u d hl, F62_eq m u d hm, F62_eq n u d hn]
  rfl
def polyAt (h : List Blk) : Value → Option (Nat × Nat × List Int)
  | .slice (some ⟨b, 0, none⟩) n c =>
    match h[b]? with
    | some (.cells 3 vs) => match intsOf vs with | some l => if l.length = n ∧ n < 1000 ∧ 0 < n then some (b, c, l) else none | none => none
    | _ => none
  | _ => none
theorem polyAt_eq {h : List Blk} {v : Value} {b c : Nat} {l : List Int} (hp : polyAt h v = some (b, c, l)) : v = .slice (some ⟨b, 0, none⟩) l.length c ∧ l.length < 1000 ∧ h[b]? = some (.cells 3 (l.flatMap e3)) := by
  unfold polyAt at hp
  split at hp
  · rename_i b' n c'
    split at hp
    · rename_i vs hb
      split at hp
      · rename_i l' hl
        split at hp
        · rename_i hn
          cases hp
          obtain ⟨h1, h2, h3⟩ := hn
          subst h1
          exact ⟨rfl, h2, by rw [hb, intsOf_eq hl]⟩
        · cases hp
      · cases hp
    · cases hp
  · cases hp
def sumChanges : List Value → List Blk → Option (Value × List Blk)
  | [.func (.func 143) ⟨[]⟩ ⟨[.pointer (some ⟨b0, 0, none⟩), .pointer (some ⟨b5, 0, none⟩), .pointer (some ⟨b6, 0, none⟩)]⟩], h =>
    match h[b0]? with
    | some (.cells 131 [.slice (some ⟨b1, 0, none⟩) 3 c1]) =>
      match h[b1]? with
      | some (.cells 132 [v2, v3, v4]) =>
        match h[b5]? with
        | some (.cells 206 [.func (.func 62) ⟨[]⟩ ⟨[]⟩]) =>
          match h[b6]? with
          | some (.cells 34 [.int .i64 u, .int .i64 d]) =>
            match polyAt h v2 with
            | some (_, _, l2) =>
              match polyAt h v3 with
              | some (_, _, l3) =>
                match polyAt h v4 with
                | some (_, _, l4) => match chgO (sg u d l2) (sg u d l3) (sg u d l4) with | some r => some (.int .i64 r, []) | none => none
                | none => none
              | none => none
            | none => none
          | _ => none
        | _ => none
      | _ => none
    | _ => none
  | _, _ => none
theorem rn_any {f : Nat → Nat × Nat} {n i b l c : Nat} (hi : i < n) (hf : f i = (b, 0)) : Rn true f n (sv i l ANY) (.slice (some ⟨b, 0, none⟩) l c) := by
  have := Rn.any (p := true) (f := f) (n := n) i 0 0 l c ANY hi (by rw [hf]) rfl (by decide)
  rwa [hf] at this
theorem rn_ptr {f : Nat → Nat × Nat} {n i b : Nat} (hi : i < n) (hf : f i = (b, 0)) : Rn true f n (pt i 0) (.pointer (some ⟨b, 0, none⟩)) := by
  have := Rn.ptr (p := true) (f := f) (n := n) i 0 0 hi (by rw [hf])
  rwa [hf] at this
def f7 (b0 b1 b2 b3 b4 b5 b6 : Nat) (i : Nat) : Nat × Nat :=
  match i with | 0 => (b0, 0) | 1 => (b1, 0) | 2 => (b2, 0) | 3 => (b3, 0) | 4 => (b4, 0) | 5 => (b5, 0) | _ => (b6, 0)
theorem sumChanges_ok {args : List Value} {h new : List Blk} {v : Value} (hs : sumChanges args h = some (v, new)) : PureSim Tryz.prog 107 args h v new := by
  unfold sumChanges at hs
  split at hs
  · rename_i b0 b5 b6
    split at hs
    · rename_i b1 c1 h0
      split at hs
      · rename_i v2 v3 v4 h1
        split at hs
        · rename_i h5
          split at hs
          · rename_i u d h6
            split at hs
            · rename_i b2 c2 l2 hp2
              split at hs
              · rename_i b3 c3 l3 hp3
                split at hs
                · rename_i b4 c4 l4 hp4
                  split at hs
                  · rename_i r hr
                    cases hs
                    obtain ⟨e2, n2, g2⟩ := polyAt_eq hp2
                    obtain ⟨e3', n3, g3⟩ := polyAt_eq hp3
                    obtain ⟨e4, n4, g4⟩ := polyAt_eq hp4
                    subst e2 e3' e4
                    have hP := C107 l2 l3 l4 u d r (by rw [F107_eq l2 l3 l4 u d n2 n3 n4]; exact hr)
                    refine PureSim.ren (f7 b0 b1 b2 b3 b4 b5 b6) hP ?_ ?_ (.flat rfl) (fun b hb => by cases hb)
                    · refine .cons (.inr ⟨_, h0, .cells _ _ _ _ ?_⟩) (.cons (.inr ⟨_, h1, .cells _ _ _ _ ?_⟩) (.cons (At.accU (enc := e3) (l := l2) g2 rfl fun y => rfl) (.cons (At.accU (enc := e3) (l := l3) g3 rfl fun y => rfl) (.cons (At.accU (enc := e3) (l := l4) g4 rfl fun y => rfl)
                        (.cons (.inr ⟨_, h5, .cells _ _ _ _ ?_⟩) (.cons (.inr ⟨_, h6, .cells _ _ _ _ ?_⟩) (.nil _)))))))
                      · exact .cons (rn_any (n := 7) (by decide) rfl) .nil
                      · exact .cons (rn_any (n := 7) (by decide) rfl) (.cons (rn_any (n := 7) (by decide) rfl) (.cons (rn_any (n := 7) (by decide) rfl) .nil))
                      · exact .cons (.func 62 [] [] [] [] rfl (fun j v v' hj => by simp at hj) rfl (fun j v v' hj => by simp at hj)) .nil
                      · exact .cons (.flat rfl) (.cons (.flat rfl) .nil)
                    · refine .cons (.func 143 [] [] _ _ rfl (fun j v v' hj => by simp at hj) rfl ?_) .nil
                      have key : ∀ f : Nat → Nat × Nat, f 0 = (b0, 0) → f 5 = (b5, 0) → f 6 = (b6, 0) → LRn true f 7 [pt 0 0, pt 5 0, pt 6 0] [.pointer (some ⟨b0, 0, none⟩), .pointer (some ⟨b5, 0, none⟩), .pointer (some ⟨b6, 0, none⟩)] :=
                        fun f g0 g5 g6 => .cons (rn_ptr (by decide) g0) (.cons (rn_ptr (by decide) g5) (.cons (rn_ptr (by decide) g6) .nil))
                      exact (key (f7 b0 b1 b2 b3 b4 b5 b6) rfl rfl rfl).at_
                  · cases hs
                · cases hs
              · cases hs
            · cases hs
          · cases hs
        · cases hs
      · cases hs
    · cases hs
  · cases hs
namespace worked
noncomputable def sumT (T : List Cl.Entry) (g : FuncId) : Option (List Value → List Blk → Option (Value × List Blk)) := if g == 62 then some sumSign else if g == 107 then some sumChanges else Cl.tableSumR T g
theorem sumT_ok {E : Env} {T : List Cl.Entry} (hp : E.P = Tryz.prog) (hE : E.sum = sumT T) (hT : ∀ e ∈ T, PureSim E.P e.g e.args e.h e.v e.new) (hI : E.isum = fun _ => none := by rfl) : SumOk E := by
  refine ⟨fun g s args h v new hs hv => ?_, fun g s args base h v h1 hs => by rw [hI] at hs; cases hs⟩
  rw [hE] at hs
  unfold sumT at hs
  split at hs
  · rename_i hg
    cases hs
    have hg : g = 62 := by simpa using hg
    subst hg
    rw [hp]
    exact sumSign_ok hv
  · split at hs
    · rename_i hg
      cases hs
      have hg : g = 107 := by simpa using hg
      subst hg
      rw [hp]
      exact sumChanges_ok hv
    unfold tableSumR at hs
    split at hs
    · cases hs; exact lookR_sound hT hv
    · cases hs
end worked
end Go.Proofs.YtfebcljpgcahbaaGreat
