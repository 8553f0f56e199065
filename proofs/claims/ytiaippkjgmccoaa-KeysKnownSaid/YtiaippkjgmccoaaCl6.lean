/- Operations, one by one: slice expressions, literals of slices, comparisons. -/
import Derived.Test.YtiaippkjgmccoaaCl5
namespace Go.Cl
open Go Go.RowKit

section
variable {P : Program} {w : World} {D : Nat → Prop} {β : Nat → Nat × Nat} {κ : Nat → Nat} {base N n : Nat}

/-- Optional operands. -/
def OR (D : Nat → Prop) (β : Nat → Nat × Nat) (κ : Nat → Nat) : Option Value → Option Value → Prop
  | none, none => True
  | some v, some v' => VR D β κ v v'
  | _, _ => False

theorem OR.map {ρ ρ' : Operand → Value} (hρ : ∀ x, VR D β κ (ρ x) (ρ' x)) (x : Option Operand) : OR D β κ (x.map ρ) (x.map ρ') := by
  cases x with
  | none => trivial
  | some x => exact hρ x

theorem bound_sim {v v' : Value} {y : Nat} {m : Nat} (code : BoundsCode) (h : ((cInt v).bind fun x => if 0 ≤ x ∧ x ≤ (y : Int) then some x.toNat else none) = some m) (hv : VR D β κ v v') (w : World) :
    (Instr.sliceBound v' y code).run P w = .ok m w ∧ m ≤ y := by
  cases hi : cInt v with
  | none => rw [hi] at h; cases h
  | some x =>
    obtain ⟨k, rfl, rfl⟩ := cInt_sim hi hv
    rw [hi] at h
    simp only [Option.bind_some] at h
    split at h
    · rename_i hb
      cases h
      refine ⟨?_, by omega⟩
      simp [Instr.sliceBound, asIntOf, hb]
    · cases h

/-- The bounds, over a capacity that both sides know. -/
theorem bounds_sim {b : Bool} {len cap l h m : Nat} {lo hi mx lo' hi' mx' : Option Value} (hb : cBounds len cap lo hi mx = some (l, h, m))
    (h1 : OR D β κ lo lo') (h2 : OR D β κ hi hi') (h3 : OR D β κ mx mx') (w : World) :
    (Instr.sliceBounds b len cap lo' hi' mx').run P w = .ok (l, h, m) w ∧ (hi = none → mx = none → h = len ∧ m = cap) ∧ (mx = none → m = cap) ∧ l ≤ h ∧ m ≤ cap ∧ (len ≤ cap → h ≤ m) := by
  unfold cBounds at hb
  split at hb
  · cases hb
  · rename_i m0 hm
    split at hb
    · cases hb
    · rename_i h0 hh
      split at hb
      · cases hb
      · rename_i l0 hl
        cases hb
        cases mx with
        | none =>
          cases mx' with
          | some _ => exact h3.elim
          | none =>
          simp only [Option.some.injEq] at hm
          subst hm
          cases hi with
          | none =>
            cases hi' with
            | some _ => exact h2.elim
            | none =>
            simp only [Option.some.injEq] at hh
            subst hh
            cases lo with
            | none =>
              cases lo' with
              | some _ => exact h1.elim
              | none =>
              simp only [Option.some.injEq] at hl
              subst hl
              exact ⟨by simp [Instr.sliceBounds], fun _ _ => ⟨rfl, rfl⟩, fun _ => rfl, by omega, Nat.le_refl _, fun h => h⟩
            | some v =>
              cases lo' with
              | none => exact h1.elim
              | some v' =>
              obtain ⟨r, hle⟩ := bound_sim (P := P) .sliceB hl h1 w
              exact ⟨by simp [Instr.sliceBounds, r], fun _ _ => ⟨rfl, rfl⟩, fun _ => rfl, by omega, Nat.le_refl _, fun h => h⟩
          | some u =>
            cases hi' with
            | none => exact h2.elim
            | some u' =>
            obtain ⟨r1, hle1⟩ := bound_sim (P := P) (if b then .sliceAcap else .sliceAlen) hh h2 w
            cases lo with
            | none =>
              cases lo' with
              | some _ => exact h1.elim
              | none =>
              simp only [Option.some.injEq] at hl
              subst hl
              exact ⟨by simp [Instr.sliceBounds, r1], fun h => by simp at h, fun _ => rfl, by omega, Nat.le_refl _, fun _ => hle1⟩
            | some v =>
              cases lo' with
              | none => exact h1.elim
              | some v' =>
              obtain ⟨r, hle⟩ := bound_sim (P := P) .sliceB hl h1 w
              exact ⟨by simp [Instr.sliceBounds, r, r1], fun h => by simp at h, fun _ => rfl, by omega, Nat.le_refl _, fun _ => hle1⟩
        | some x =>
          cases mx' with
          | none => exact h3.elim
          | some x' =>
          obtain ⟨r2, hle2⟩ := bound_sim (P := P) (if b then .slice3Acap else .slice3Alen) hm h3 w
          cases hi with
          | none => simp at hh
          | some u =>
            cases hi' with
            | none => exact h2.elim
            | some u' =>
            obtain ⟨r1, hle1⟩ := bound_sim (P := P) .slice3B hh h2 w
            cases lo with
            | none =>
              cases lo' with
              | some _ => exact h1.elim
              | none =>
              simp only [Option.some.injEq] at hl
              subst hl
              exact ⟨by simp [Instr.sliceBounds, r1, r2], fun h => by simp at h, fun h => by simp at h, by omega, hle2, fun _ => hle1⟩
            | some v =>
              cases lo' with
              | none => exact h1.elim
              | some v' =>
              obtain ⟨r, hle⟩ := bound_sim (P := P) .slice3C hl h1 w
              exact ⟨by simp [Instr.sliceBounds, r, r1, r2], fun h => by simp at h, fun h => by simp at h, by omega, hle2, fun _ => hle1⟩

/-- The same over a capacity that only the model knows: what lies within the length lies within it. -/
theorem bounds_simU {b : Bool} {len cap l h m : Nat} {lo hi mx lo' hi' mx' : Option Value} (hb : cBounds len len lo hi mx = some (l, h, m)) (hcap : len ≤ cap)
    (h1 : OR D β κ lo lo') (h2 : OR D β κ hi hi') (h3 : OR D β κ mx mx') (w : World) :
    (Instr.sliceBounds b len cap lo' hi' mx').run P w = .ok (l, h, if mx.isSome then m else cap) w ∧ l ≤ h ∧ h ≤ len ∧ m ≤ len ∧ h ≤ m := by
  have hb' : cBounds len cap lo hi mx = some (l, h, if mx.isSome then m else cap) ∧ h ≤ len ∧ m ≤ len ∧ h ≤ m := by
    unfold cBounds at hb ⊢
    cases mx with
    | none =>
      simp only [Option.isSome_none] at *
      cases hi with
      | none =>
        simp only at hb ⊢
        split at hb
        · cases hb
        · rename_i l0 hl; cases hb; exact ⟨by simp, Nat.le_refl _, Nat.le_refl _, Nat.le_refl _⟩
      | some u =>
        simp only at hb ⊢
        cases hu : cInt u with
        | none => rw [hu] at hb; simp at hb
        | some x =>
          rw [hu] at hb
          simp only [Option.bind_some] at hb ⊢
          by_cases hx : 0 ≤ x ∧ x ≤ (len : Int)
          · rw [if_pos hx] at hb
            rw [if_pos (show 0 ≤ x ∧ x ≤ (cap : Int) by omega)]
            simp only at hb ⊢
            split at hb
            · cases hb
            · rename_i l0 hl; cases hb; exact ⟨by simp, by omega, Nat.le_refl _, by omega⟩
          · rw [if_neg hx] at hb; simp at hb
    | some y =>
      simp only [Option.isSome_some, if_true] at *
      cases hy : cInt y with
      | none => rw [hy] at hb; simp at hb
      | some z =>
        rw [hy] at hb
        simp only [Option.bind_some] at hb ⊢
        by_cases hz : 0 ≤ z ∧ z ≤ (len : Int)
        · rw [if_pos hz] at hb
          rw [if_pos (show 0 ≤ z ∧ z ≤ (cap : Int) by omega)]
          simp only at hb ⊢
          cases hi with
          | none => simp at hb
          | some u =>
            simp only at hb ⊢
            cases hu : cInt u with
            | none => rw [hu] at hb; simp at hb
            | some x =>
              rw [hu] at hb
              simp only [Option.bind_some] at hb ⊢
              by_cases hx : 0 ≤ x ∧ x ≤ (z.toNat : Int)
              · rw [if_pos hx] at hb ⊢
                simp only at hb ⊢
                split at hb
                · cases hb
                · rename_i l0 hl; cases hb; exact ⟨by simp, by omega, by omega, by omega⟩
              · rw [if_neg hx] at hb; simp at hb
        · rw [if_neg hz] at hb; simp at hb
  obtain ⟨e, a1, a2, a3⟩ := hb'
  obtain ⟨r, _, _, b1, _, _⟩ := bounds_sim (P := P) (b := b) e h1 h2 h3 w
  exact ⟨r, b1, a1, a2, a3⟩

theorem slice_sim {t : TypeId} {v v' x : Value} {lo hi mx lo' hi' mx' : Option Value} (h : cSlice P t v lo hi mx = some x) (hv : VR D β κ v v')
    (h1 : OR D β κ lo lo') (h2 : OR D β κ hi hi') (h3 : OR D β κ mx mx') :
    ∃ x', (Instr.sliceAt t v' lo' hi' mx').run P w = .ok x' w ∧ VR D β κ x x' := by
  unfold cSlice at h
  split at h
  · rename_i e a len cap hu
    split at h
    · cases h
    · rename_i size hsz
      split at h
      · rename_i hc
        split at h
        · rename_i l hh m hb
          cases h
          have go : ∀ a' : Option Addr, v' = .slice a' len cap → (∀ k, VR D β κ (.slice (if m = l then a else a.map (·.add k)) (hh - l) (m - l)) (.slice (if m = l then a' else a'.map (·.add k)) (hh - l) (m - l))) →
              ∃ x', (Instr.sliceAt t v' lo' hi' mx').run P w = .ok x' w ∧ VR D β κ (.slice (if m = l then a else a.map (·.add (l * size))) (hh - l) (m - l)) x' := by
            rintro a' rfl hk
            obtain ⟨r, _⟩ := bounds_sim (P := P) (b := true) hb h1 h2 h3 w
            exact ⟨_, by simp [Instr.sliceAt, Instr.slice, run_und hu, r, run_size hsz], hk _⟩
          have hm : m - l ≤ INF := by
            obtain ⟨_, _, _, _, hm, _⟩ := bounds_sim (P := P) (b := true) hb h1 h2 h3 w
            omega
          cases hv with
          | snil =>
            obtain ⟨_, _, _, b1, b2, b3⟩ := bounds_sim (P := P) (b := true) hb h1 h2 h3 w
            have hh0 : hh - l = 0 := by have := b3 (Nat.le_refl _); omega
            have hm0 : m - l = 0 := by omega
            refine go none rfl fun k => ?_
            rw [hh0, hm0]
            split <;> exact .snil
          | sliceZ i o a' =>
            obtain ⟨_, _, _, b1, b2, b3⟩ := bounds_sim (P := P) (b := true) hb h1 h2 h3 w
            have hh0 : hh - l = 0 := by have := b3 (Nat.le_refl _); omega
            have hm0 : m - l = 0 := by omega
            refine go _ rfl fun k => ?_
            rw [hh0, hm0]
            split
            · exact .sliceZ i o _
            · simp only [Option.map_some, add_eq]; exact .sliceZ i _ _
          | slice i o l' c hi hlc hc =>
            obtain ⟨_, b0, _, b1, b2, b3⟩ := bounds_sim (P := P) (b := true) hb h1 h2 h3 w
            have hhm : hh - l ≤ m - l := by have := b3 hlc; omega
            refine go _ rfl fun k => ?_
            split
            · exact .slice i o _ _ hi hhm hm
            · simp only [Option.map_some, add_eq, Nat.add_assoc]; exact .slice i (o + k) _ _ hi hhm hm
          | sliceU i o l' q hi hq hk => simp only [UNK, INF] at *; omega
          | sliceE i o q a hq => simp only [UNK, INF] at *; omega
          | sliceA i o l' C c hi hC hlc hc' => simp only [UNK, INF] at *; omega
          | sliceAN i o C a hC => simp only [UNK, INF] at *; omega
        · cases h
      · rename_i hc
        split at h
        · rename_i u
          split at h
          · rename_i l hh m hb
            cases h
            cases mx' with
            | none => exact h3.elim
            | some u' =>
            cases hv with
            | snil => exact absurd (Nat.zero_le _) hc
            | sliceZ => exact absurd (Nat.zero_le _) hc
            | slice i o l' c hi _ hc' => exact absurd hc' hc
            | sliceU i o l' q hi hq hk =>
              obtain ⟨r, b1, b2, b3, b4⟩ := bounds_simU (P := P) (b := true) (cap := κ i - q) hb (by omega) h1 h2 h3 w
              simp only [Option.isSome_some, if_true] at r
              refine ⟨.slice (if m = l then some ⟨(β i).1, (β i).2 + o, none⟩ else some ⟨(β i).1, (β i).2 + (o + l * size), none⟩) (hh - l) (m - l), ?_, ?_⟩
              · simp [Instr.sliceAt, Instr.slice, run_und hu, r, run_size hsz, add_eq, Nat.add_assoc]
              · have hm : m - l ≤ INF := by simp only [INF] at *; omega
                split
                · exact .slice i o _ _ hi (by omega) hm
                · simp only [Option.map_some, add_eq]; exact .slice i _ _ _ hi (by omega) hm
            | sliceE i o q a hq =>
              obtain ⟨r, b1, b2, b3, b4⟩ := bounds_simU (P := P) (b := true) (cap := 0) hb (by omega) h1 h2 h3 w
              simp only [Option.isSome_some, if_true] at r
              have hl0 : l = 0 := by omega
              have hh0 : hh = 0 := by omega
              have hm0 : m = 0 := by omega
              subst hl0 hh0 hm0
              refine ⟨.slice (some a) 0 0, ?_, ?_⟩
              · simp [Instr.sliceAt, Instr.slice, run_und hu, r, run_size hsz]
              · simp only [if_true, Nat.sub_zero]; exact .sliceZ i o (some a)
            | sliceA i o l' C c hi hC hlc hc' =>
              obtain ⟨r, b1, b2, b3, b4⟩ := bounds_simU (P := P) (b := true) (cap := c) hb (by omega) h1 h2 h3 w
              simp only [Option.isSome_some, if_true] at r
              refine ⟨.slice (if m = l then some ⟨(β i).1, (β i).2 + o, none⟩ else some ⟨(β i).1, (β i).2 + (o + l * size), none⟩) (hh - l) (m - l), ?_, ?_⟩
              · simp [Instr.sliceAt, Instr.slice, run_und hu, r, run_size hsz, add_eq, Nat.add_assoc]
              · have hm : m - l ≤ INF := by simp only [INF] at *; omega
                split
                · exact .slice i o _ _ hi (by omega) hm
                · simp only [Option.map_some, add_eq]; exact .slice i _ _ _ hi (by omega) hm
            | sliceAN i o C a hC =>
              obtain ⟨r, b1, b2, b3, b4⟩ := bounds_simU (P := P) (b := true) (cap := 0) hb (by omega) h1 h2 h3 w
              simp only [Option.isSome_some, if_true] at r
              have hl0 : l = 0 := by omega
              have hh0 : hh = 0 := by omega
              have hm0 : m = 0 := by omega
              subst hl0 hh0 hm0
              refine ⟨.slice a 0 0, ?_, ?_⟩
              · simp [Instr.sliceAt, Instr.slice, run_und hu, r, run_size hsz]
              · simp only [if_true, Nat.sub_zero]
                exact .sliceZ i o a
          · cases h
        · split at h
          · rename_i l hh m hb
            cases h
            cases mx' with
            | some u' => exact h3.elim
            | none =>
            cases hv with
            | snil => exact absurd (Nat.zero_le _) hc
            | sliceZ => exact absurd (Nat.zero_le _) hc
            | slice i o l' c hi _ hc' => exact absurd hc' hc
            | sliceU i o l' q hi hq hk =>
              obtain ⟨r, b1, b2, b3, b4⟩ := bounds_simU (P := P) (b := true) (cap := κ i - q) hb (by omega) h1 h2 h3 w
              simp only [Option.isSome_none] at r
              refine ⟨.slice (if κ i - q = l then some ⟨(β i).1, (β i).2 + o, none⟩ else some ⟨(β i).1, (β i).2 + (o + l * size), none⟩) (hh - l) (κ i - q - l), ?_, ?_⟩
              · simp [Instr.sliceAt, Instr.slice, run_und hu, r, run_size hsz, add_eq, Nat.add_assoc]
              · have e1 : (if UNK < UNK - q then UNK - q else UNK - q - l) = UNK - (q + l) := by rw [if_neg (by omega)]; omega
                have e2 : κ i - q - l = κ i - (q + l) := by omega
                simp only [Option.map_some, add_eq, e1]
                split
                · rename_i he
                  have z1 : hh - l = 0 := by omega
                  have z2 : κ i - q - l = 0 := by omega
                  rw [z1, z2]
                  exact .sliceE i _ _ _ (by omega)
                · rw [e2]
                  exact .sliceU i _ _ _ hi (by omega) hk
            | sliceE i o q a hq =>
              obtain ⟨r, b1, b2, b3, b4⟩ := bounds_simU (P := P) (b := true) (cap := 0) hb (by omega) h1 h2 h3 w
              simp only [Option.isSome_none] at r
              have hl0 : l = 0 := by omega
              have hh0 : hh = 0 := by omega
              subst hl0 hh0
              refine ⟨.slice (some a) 0 0, ?_, ?_⟩
              · simp [Instr.sliceAt, Instr.slice, run_und hu, r, run_size hsz]
              · simp only [Option.map_some, add_eq, Nat.sub_zero]; rw [ite_self]; exact .sliceE i _ _ _ hq
            | sliceA i o l' C c hi hC hlc hc' =>
              obtain ⟨r, b1, b2, b3, b4⟩ := bounds_simU (P := P) (b := true) (cap := c) hb (by omega) h1 h2 h3 w
              simp only [Option.isSome_none] at r
              refine ⟨.slice (if c = l then some ⟨(β i).1, (β i).2 + o, none⟩ else some ⟨(β i).1, (β i).2 + (o + l * size), none⟩) (hh - l) (c - l), ?_, ?_⟩
              · simp [Instr.sliceAt, Instr.slice, run_und hu, r, run_size hsz, add_eq, Nat.add_assoc]
              · rw [if_pos hC]
                simp only [Option.map_some, add_eq]
                split
                · rename_i he
                  have z1 : hh - l = 0 := by omega
                  have z2 : c - l = 0 := by omega
                  rw [z1, z2]
                  exact .sliceAN i _ _ _ hC
                · exact .sliceA i _ _ _ _ hi hC (by omega) (by omega)
            | sliceAN i o C a hC =>
              obtain ⟨r, b1, b2, b3, b4⟩ := bounds_simU (P := P) (b := true) (cap := 0) hb (by omega) h1 h2 h3 w
              simp only [Option.isSome_none] at r
              have hl0 : l = 0 := by omega
              have hh0 : hh = 0 := by omega
              subst hl0 hh0
              refine ⟨.slice a 0 0, ?_, ?_⟩
              · simp [Instr.sliceAt, Instr.slice, run_und hu, r, run_size hsz]
              · rw [if_pos hC]; simp only [Option.map_some, add_eq, Nat.sub_zero]; exact .sliceAN i _ _ _ hC
          · cases h
  · rename_i k e a hu
    split at h
    · rename_i size l hh m hsz hb
      split at h
      · rename_i hk
        cases h
        cases hv with
        | ptr i o hi =>
        obtain ⟨r, _, _, _, hm, b3⟩ := bounds_sim (P := P) (b := false) hb h1 h2 h3 w
        have hhm := b3 (Nat.le_refl _)
        refine ⟨.slice (if m = l then some ⟨(β i).1, (β i).2 + o, none⟩ else some ⟨(β i).1, (β i).2 + (o + l * size), none⟩) (hh - l) (m - l), ?_, ?_⟩
        · simp only [Instr.sliceAt, Sem.run_bind, run_und hu, Result.andThen_ok, Instr.sureAddr, r, run_size hsz, Sem.run_pure, add_eq, Nat.add_assoc]
          split <;> rfl
        · split
          · exact .slice i o _ _ hi (by omega) (by omega)
          · simp only [add_eq]; exact .slice i _ _ _ hi (by omega) (by omega)
      · cases h
    · cases h
  · cases h

/-- A literal of a slice. -/
theorem buildSlice_sim {ρ ρ' : Operand → Value} {t : TypeId} {len : Nat} {parts : Array (Nat × Operand)} {q : QRes} (h : cBuildSlice P n t len (partsOf ρ parts) = some q) (hρ : ∀ x, VR D β κ (ρ x) (ρ' x))
    (hN : N ≤ w.heap.size) (hn : ∀ i, D i → i ≠ n) :
    ∃ v' w' β' κ', (Instr.buildSlice t len (parts.map fun (i, x) => (i, ρ' x))).run P w = .ok v' w' ∧ QOut P D β κ base N n w q v' w' β' κ' := by
  unfold cBuildSlice at h
  split at h
  · rename_i e hu
    split at h
    · cases h
    · rename_i size hsz
      split at h
      · cases h
      · rename_i hbig
        split at h
        · cases h
        · rename_i zero hz
          split at h
          · cases h
          · rename_i hc
            simp only [Bool.or_eq_true, Bool.not_eq_true', not_or, Bool.not_eq_false] at hc
            obtain ⟨hzf, hok⟩ := hc
            obtain ⟨hlen, hps⟩ := parts_sim hρ parts hok
            split at h
            · rename_i cells hf
              cases h
              have hle : len ≤ INF := by
                have hI : INF = 9223372036854775808 := rfl
                have : len * 1 ≤ len * size := Nat.mul_le_mul_left _ (by omega)
                omega
              have hrow : LR D β κ ((Array.range (len * size)).map (zero[· % zero.size]!)).toList ((Array.range (len * size)).map (zero[· % zero.size]!)).toList := by
                refine .of_leaves ?_
                rw [List.all_eq_true]
                intro x hx
                simp only [Array.toList_map, List.mem_map] at hx
                obtain ⟨j, _, rfl⟩ := hx
                by_cases hj : j % zero.size < zero.size
                · rw [getElem!_pos zero _ hj]
                  exact List.all_eq_true.1 hzf _ (by simp)
                · rw [getElem!_neg zero _ hj]; rfl
              obtain ⟨r', h1, h2⟩ := fill_sim _ _ _ _ _ _ hf hrow hlen hps
              unfold partsOf at h1
              obtain ⟨β', κ', hq⟩ := QOut.cells (P := P) (base := base) (t := e) (v := .slice (some ⟨n, 0, none⟩) len len) (v' := .slice (some ⟨w.heap.size, 0, none⟩) len len) hN hn h2
                (fun β' κ' hβ _ => vr_newslice len len (Nat.le_refl _) hle hβ)
              refine ⟨_, _, β', κ', ?_, hq⟩
              have hbig' : ¬ len * size > 2 ^ 24 := fun h => hbig (.inl h)
              by_cases h0 : len * size = 0
              · rw [if_pos h0] at hz
                cases hz
                simp [Instr.buildSlice, run_und hu, run_size hsz, hbig', h0] at h1 ⊢
                simp [h1, newRow]
              · rw [if_neg h0] at hz
                cases hzt : zeroT P e with
                | none => rw [hzt] at hz; cases hz
                | some z =>
                  rw [hzt] at hz
                  cases hz
                  simp only [Instr.buildSlice, Sem.run_bind, run_und hu, Result.andThen_ok, run_size hsz, if_neg hbig', if_neg h0, run_zero hzt, Sem.run_pure]
                  simp [h1, newRow]
            · cases h
  · cases h
end
end Go.Cl
