/- Operations, one by one: parts of values, addresses, slices of slices. -/
import Derived.Test.YtiaippkjgmccoaaCl4
namespace Go.Cl
open Go Go.RowKit

section
variable {P : Program} {w : World} {D : Nat → Prop} {β : Nat → Nat × Nat} {κ : Nat → Nat}

theorem add_eq (b o n : Nat) : (Addr.add ⟨b, o, none⟩ n) = ⟨b, o + n, none⟩ := by unfold Addr.add; split <;> simp_all

theorem cInt_sim {v v' : Value} {x : Int} (h : cInt v = some x) (hv : VR D β κ v v') : ∃ k, v = .int k x ∧ v' = .int k x := by
  unfold cInt at h
  split at h
  · cases h; cases hv; exact ⟨_, rfl, rfl⟩
  · cases h

theorem extract_sim {v v' : Value} {ix : Nat} {q : QRes} (h : qExtract v ix = some q) (hv : VR D β κ v v') :
    ∃ x', (Instr.extract v' ix).run P w = .ok x' w ∧ VR D β κ q.val x' ∧ q = { val := q.val } := by
  unfold qExtract at h
  split at h
  · cases hv with
    | tuple l l' hl hl' =>
    unfold qv at h
    cases hx : (⟨l⟩ : Array Value).toList[ix]? with
    | none => rw [hx] at h; cases h
    | some x =>
      rw [hx] at h
      cases h
      have hx' : l[ix]? = some x := hx
      obtain ⟨x', h1, h2⟩ := LR.get ⟨hl, hl'⟩ hx'
      exact ⟨x', by simp [Instr.extract, h1], h2, rfl⟩
  · cases h

/-- A part of a struct or an array. -/
theorem part_sim {t : TypeId} {l l' : List Value} {off : Nat} {x : Value} (h : cPart P t ⟨l⟩ off = some x) (hl : LR D β κ l l') :
    ∃ x', (part t ⟨l'⟩ off).run P w = .ok x' w ∧ VR D β κ x x' := by
  unfold cPart at h
  split at h
  · rename_i n hagg hsz
    cases h
    have := (hl.drop off).take n
    refine ⟨.agg ⟨(l'.drop off).take n⟩, ?_, .agg _ _ this.len this.at_⟩
    simp [part, run_isAgg hagg, run_size hsz, List.extract_toArray, List.extract_eq_take_drop]
  · rename_i hagg
    obtain ⟨x', h1, h2⟩ := hl.get h
    exact ⟨x', by simp [part, run_isAgg hagg, h1], h2⟩
  · cases h

theorem field_sim {t : TypeId} {v v' x : Value} {f : Nat} (h : cField P t v f = some x) (hv : VR D β κ v v') :
    ∃ x', (Instr.field t v' f).run P w = .ok x' w ∧ VR D β κ x x' := by
  unfold cField at h
  split at h
  · rename_i fields cs hu
    cases hv with
    | agg l l' hl hl' =>
    split at h
    · rename_i fd hf
      obtain ⟨x', h1, h2⟩ := part_sim (w := w) h ⟨hl, hl'⟩
      exact ⟨x', by simp [Instr.field, run_und hu, hf, asAgg, h1], h2⟩
    · cases h
  · cases h

theorem index_sim {t : TypeId} {v v' ix ix' x : Value} (h : cIndex P t v ix = some x) (hv : VR D β κ v v') (hi : VR D β κ ix ix') :
    ∃ x', (Instr.index t v' ix').run P w = .ok x' w ∧ VR D β κ x x' := by
  unfold cIndex at h
  split at h
  · cases h
  · rename_i i hint
    obtain ⟨k, rfl, rfl⟩ := cInt_sim hint hi
    split at h
    · rename_i n e cs hu
      cases hv with
      | agg l l' hl hl' =>
      split at h
      · rename_i size hsz
        split at h
        · rename_i hb
          obtain ⟨x', h1, h2⟩ := part_sim (w := w) h ⟨hl, hl'⟩
          exact ⟨x', by simp [Instr.index, asIntOf, run_und hu, hb, run_size hsz, h1], h2⟩
        · cases h
      · cases h
    · rename_i b hu
      cases hv
      split at h
      · rename_i c hc
        split at h
        · rename_i hb
          cases h
          have hlt : i.toNat < b.data.toList.length := (List.getElem?_eq_some_iff.1 hc).1
          have hlt' : i.toNat < b.size := by
            rw [Array.length_toList] at hlt
            exact hlt
          have hget : b[i.toNat]? = some c := by
            rw [getElem?_pos b i.toNat hlt']
            have : b.data.toList[i.toNat] = c := by
              rw [List.getElem?_eq_getElem hlt] at hc
              exact Option.some.inj hc
            exact congrArg some this
          exact ⟨.int .u8 c.toNat, by simp [Instr.index, asIntOf, run_und hu, hb, hget], .int _ _⟩
        · cases h
      · cases h
    · cases h

theorem fieldAddr_sim {t : TypeId} {v v' x : Value} {f : Nat} (h : cFieldAddr P t v f = some x) (hv : VR D β κ v v') :
    ∃ x', (Instr.fieldAt t v' f).run P w = .ok x' w ∧ VR D β κ x x' := by
  unfold cFieldAddr at h
  split at h
  · rename_i fields a hu
    cases hv with
    | ptr i o hi =>
    split at h
    · rename_i fd hf
      split at h
      · rename_i n hsz
        split at h
        · cases h
        · rename_i hn
          cases h
          rw [add_eq]
          refine ⟨.pointer (some ⟨(β i).1, (β i).2 + (o + fd.offset), none⟩), ?_, .ptr i _ hi⟩
          simp [Instr.fieldAt, run_und hu, hf, Instr.sureAddr, fieldPlace, run_size hsz, hn, add_eq, Nat.add_assoc]
      · cases h
    · cases h
  · cases h

theorem indexAddr_sim {t : TypeId} {v v' ix ix' x : Value} (h : cIndexAddr P t v ix = some x) (hv : VR D β κ v v') (hi : VR D β κ ix ix') :
    ∃ x', (Instr.indexAt t v' ix').run P w = .ok x' w ∧ VR D β κ x x' := by
  unfold cIndexAddr at h
  split at h
  · cases h
  · rename_i i hint
    obtain ⟨k, rfl, rfl⟩ := cInt_sim hint hi
    split at h
    · rename_i e a len cap hu
      split at h
      · rename_i size hsz
        split at h
        · rename_i hb
          cases h
          cases hv with
          | slice j o l c hj hlc hc =>
            rw [add_eq]
            refine ⟨.pointer (some ⟨(β j).1, (β j).2 + (o + i.toNat * size), none⟩), ?_, .ptr j _ hj⟩
            simp [Instr.indexAt, asIntOf, run_und hu, hb, run_size hsz, add_eq, Nat.add_assoc]
          | sliceU j o l q hj hq hk =>
            rw [add_eq]
            refine ⟨.pointer (some ⟨(β j).1, (β j).2 + (o + i.toNat * size), none⟩), ?_, .ptr j _ hj⟩
            simp [Instr.indexAt, asIntOf, run_und hu, hb, run_size hsz, add_eq, Nat.add_assoc]
          | sliceA j o l C c hj hC hlc hc =>
            rw [add_eq]
            refine ⟨.pointer (some ⟨(β j).1, (β j).2 + (o + i.toNat * size), none⟩), ?_, .ptr j _ hj⟩
            simp [Instr.indexAt, asIntOf, run_und hu, hb, run_size hsz, add_eq, Nat.add_assoc]
          | sliceE => omega
          | sliceZ => omega
          | sliceAN => omega
        · cases h
      · cases h
    · rename_i n e a hu
      split at h
      · rename_i size hsz
        split at h
        · rename_i hb
          cases h
          cases hv with
          | ptr j o hj =>
            rw [add_eq]
            refine ⟨.pointer (some ⟨(β j).1, (β j).2 + (o + i.toNat * size), none⟩), ?_, .ptr j _ hj⟩
            simp [Instr.indexAt, Instr.sureAddr, asIntOf, run_und hu, hb, run_size hsz, add_eq, Nat.add_assoc]
        · cases h
      · cases h
    · cases h

/-- What is filled into a struct, an array, a slice's new row. -/
theorem fill_sim (place : Nat → Option (Nat × Nat)) : ∀ (ps ps' : List (Nat × Value)) (cs cs' : Array Value) (r : Array Value),
    Instr.fill place cs ps = some r → LR D β κ cs.toList cs'.toList → ps.length = ps'.length →
    (∀ (j : Nat) (p p' : Nat × Value), ps[j]? = some p → ps'[j]? = some p' → p.1 = p'.1 ∧ VR D β κ p.2 p'.2 ∧ okPart p.2 = true) →
    ∃ r', Instr.fill place cs' ps' = some r' ∧ LR D β κ r.toList r'.toList := by
  intro ps
  induction ps with
  | nil =>
    intro ps' cs cs' r h hl hlen _
    cases ps' with
    | nil => simp [Instr.fill] at h; subst h; exact ⟨cs', rfl, hl⟩
    | cons => simp at hlen
  | cons p ps ih =>
    intro ps' cs cs' r h hl hlen hp
    cases ps' with
    | nil => simp at hlen
    | cons p' ps' =>
    obtain ⟨i, v⟩ := p
    obtain ⟨i', v'⟩ := p'
    obtain ⟨h1, h2, h3⟩ := hp 0 _ _ rfl rfl
    simp only at h1 h2 h3
    subst h1
    have hc := h2.cells (fun e => by rw [e] at h3; cases h3)
    have hcs : v.cells.size = v'.cells.size := hc.len
    have hsz : cs.size = cs'.size := hl.len
    simp only [Instr.fill] at h ⊢
    split at h
    · cases h
    · rename_i off size hpl
      split at h
      · cases h
      · rename_i hcond
        rw [hcs, hsz] at hcond
        simp only [if_neg hcond]
        have fold : ∀ (m m' : List Value) (k : Nat) (as as' : Array Value), LR D β κ m m' → LR D β κ as.toList as'.toList →
            LR D β κ ((m.zipIdx k).foldl (fun cs p => cs.setIfInBounds (off + p.2) p.1) as).toList ((m'.zipIdx k).foldl (fun cs p => cs.setIfInBounds (off + p.2) p.1) as').toList := by
          intro m
          induction m with
          | nil => intro m' k as as' hm ha; rw [hm.unnil]; simpa using ha
          | cons x m ihm =>
            intro m' k as as' hm ha
            obtain ⟨x', m'', rfl, hx, hm'⟩ := hm.uncons
            simp only [List.zipIdx_cons, List.foldl_cons]
            exact ihm _ _ _ _ hm' (by simpa using ha.set (off + k) hx)
        refine ih ps' _ _ r h ?_ (by simpa using hlen) (fun j p p' hj hj' => hp (j + 1) p p' (by simpa using hj) (by simpa using hj'))
        have := fold v.cells.toList v'.cells.toList 0 cs cs' hc hl
        simp only [← Array.foldl_toList, Array.toList_zipIdx]
        exact this

theorem flat1_cells {v : Value} (h : flat1 v = true) : v.cells.toList.all leafFlat = true := by
  cases v <;> simpa [flat1, Value.cells] using h

theorem parts_sim {ρ ρ' : Operand → Value} (hρ : ∀ x, VR D β κ (ρ x) (ρ' x)) (parts : Array (Nat × Operand)) (hok : (partsOf ρ parts).all (fun p => okPart p.2) = true) :
    (partsOf ρ parts).length = (partsOf ρ' parts).length ∧ ∀ (j : Nat) (p p' : Nat × Value), (partsOf ρ parts)[j]? = some p → (partsOf ρ' parts)[j]? = some p' → p.1 = p'.1 ∧ VR D β κ p.2 p'.2 ∧ okPart p.2 = true := by
  refine ⟨by simp [partsOf], fun j p p' hp hp' => ?_⟩
  have h3 : okPart p.2 = true := List.all_eq_true.1 hok p (List.mem_of_getElem? hp)
  unfold partsOf at hp hp'
  rw [List.getElem?_map] at hp hp'
  cases hx : parts.toList[j]? with
  | none => rw [hx] at hp; cases hp
  | some x => rw [hx] at hp hp'; cases hp; cases hp'; exact ⟨rfl, hρ _, h3⟩

theorem mapM_size {fields : List Field} {places : List (Nat × Nat)} (h : fields.mapM (fun f => (sizeT P f.type).map fun s => (f.offset, s)) = some places) (w : World) :
    (fields.mapM (m := Sem) (fun f => Prod.mk f.offset <$> sizeOf f.type)).run P w = .ok places w := by
  induction fields generalizing places with
  | nil => simp at h; subst h; simp
  | cons f fs ih =>
    rw [List.mapM_cons] at h
    cases hs : sizeT P f.type with
    | none => rw [hs] at h; simp at h
    | some s =>
      rw [hs] at h
      cases hm : fs.mapM (fun f => (sizeT P f.type).map fun s => (f.offset, s)) with
      | none => rw [hm] at h; simp at h
      | some ps =>
        rw [hm] at h
        simp at h
        subst h
        simp [List.mapM_cons, run_size hs, ih hm]

theorem build_sim {ρ ρ' : Operand → Value} {t : TypeId} {parts : Array (Nat × Operand)} {v : Value} (h : cBuild P t (partsOf ρ parts) = some v) (hρ : ∀ x, VR D β κ (ρ x) (ρ' x)) :
    ∃ v', (Instr.build t (parts.map fun (i, x) => (i, ρ' x))).run P w = .ok v' w ∧ VR D β κ v v' := by
  unfold cBuild at h
  split at h
  · cases h
  · rename_i z hz
    split at h
    · cases h
    · rename_i hc
      simp only [Bool.or_eq_true, Bool.not_eq_true', not_or, Bool.not_eq_false] at hc
      obtain ⟨hzf, hok⟩ := hc
      obtain ⟨hlen, hps⟩ := parts_sim hρ parts hok
      have hzl : LR D β κ z.cells.toList z.cells.toList := .of_leaves (flat1_cells hzf)
      split at h
      · rename_i fields hu
        split at h
        · cases h
        · rename_i places hpl
          split at h
          · rename_i cells hf
            cases h
            obtain ⟨r', h1, h2⟩ := fill_sim _ _ _ _ _ _ hf hzl hlen hps
            refine ⟨.agg r', ?_, .agg _ _ h2.len h2.at_⟩
            have hm := mapM_size hpl w
            unfold partsOf at h1
            simp [Instr.build, run_zero hz, run_und hu, Array.mapM_eq_mapM_toList, hm, h1]
          · cases h
      · rename_i n e hu
        split at h
        · cases h
        · rename_i size hsz
          split at h
          · rename_i cells hf
            cases h
            obtain ⟨r', h1, h2⟩ := fill_sim _ _ _ _ _ _ hf hzl hlen hps
            refine ⟨.agg r', ?_, .agg _ _ h2.len h2.at_⟩
            unfold partsOf at h1
            simp [Instr.build, run_zero hz, run_und hu, run_size hsz, h1]
          · cases h
      · cases h
end
end Go.Cl
