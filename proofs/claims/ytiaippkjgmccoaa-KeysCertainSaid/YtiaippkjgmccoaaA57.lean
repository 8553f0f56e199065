/- What (*web).agrees comes to: it writes (through reach), and ranges over a map. -/
import Derived.Test.YtiaippkjgmccoaaTs14
import Derived.Test.YtiaippkjgmccoaaTs10
import Derived.Test.YtiaippkjgmccoaaProg
import Derived.KernelRfl
set_option linter.unusedVariables false
set_option maxRecDepth 100000
set_option maxHeartbeats 4000000
namespace Go.Proofs.Ytiaippkjgmccoaa.agrees
open Go Go.Cl
noncomputable def c57 : Code := Try.f57.code
noncomputable def env0 : Cl.Env := { P := Try.prog, sum := fun _ => none, imp := fun f => [57, 67, 75, 82].contains f, strict := true }
theorem mixed : env0.P.follows .mixedOrders = true := by kernel_rfl
theorem ok0 : Cl.SumOk env0 := Cl.sumOk_none fun _ => rfl
noncomputable def rr : Rec := run env0 3000
def hc (es : List (Value × Value)) : List Blk := [.cells 126 [poison, poison, .map (some 1)], .map 50 es]
noncomputable def keyRes (es : List (Value × Value)) (key : Value) : Option Bool :=
 match key with
 | .agg ⟨[.int .i64 t, .bool q]⟩ =>
  match rr.pcall 72 [key] [] with
  | some (k', []) =>
   if isFlat k' then
    match rr.pcall 68 [.pointer (some ⟨0, 0, none⟩), k'] (hc es) with
    | some (.bool b, []) => some b
    | _ => none
   else none
  | _ => none
 | _ => none
theorem keyRes_spec {es : List (Value × Value)} {key : Value} {b : Bool} (h : keyRes es key = some b) :
 ∃ t q k', key = .agg ⟨[.int .i64 t, .bool q]⟩ ∧ isFlat k' = true ∧ PureSim Try.prog 72 [key] [] k' [] ∧ PureSim Try.prog 68 [.pointer (some ⟨0, 0, none⟩), k'] (hc es) (.bool b) [] := by
 unfold keyRes at h
 split at h
 · rename_i t q
   split at h
   · rename_i k' hk
     split at h
     · rename_i hf
       split at h
       · rename_i b' hb
         cases h
         exact ⟨t, q, k', rfl, hf, answer ok0 mixed hk, answer ok0 mixed hb⟩
       cases h
     cases h
   cases h
 cases h
noncomputable def sReach (args : List Value) (base : Nat) (h : List Blk) : Option (Value × List Blk) :=
 match rr.icall 67 args base h with
 | some (v, h1) => if isFlat v && (h1.take h.length).all (selfB (h1.take h.length).length) && decide ((h1.take h.length).length = h.length) then some (v, h1.take h.length) else none
 | none => none
theorem sReach_sound {args : List Value} {base : Nat} {h h1 : List Blk} {v : Value} (hs : sReach args base h = some (v, h1)) : ImpSim Try.prog 67 args base h v h1 := by
 unfold sReach at hs
 split at hs
 · rename_i v2 h2 h67
   split at hs
   · rename_i hc
     cases hs
     simp only [Bool.and_eq_true, decide_eq_true_eq] at hc
     refine ImpSim.cut (x := h2.drop h.length) ?_ hc.2 hc.1.1 hc.1.2
     rw [List.take_append_drop]
     exact (run_sound ok0 mixed 3000).icall _ _ _ _ _ _ h67
   cases hs
 cases hs
noncomputable def sAgrees (args : List Value) (base : Nat) (h : List Blk) : Option (Value × List Blk) :=
 match args with
 | [.pointer (some ⟨k, 0, none⟩), g] =>
  match sReach args base h with
  | some (v0, h1) =>
   match h1[k]? with
   | some (.cells 126 [a, b, .map (some m)]) =>
    match h1[m]? with
    | some (.map 50 es) =>
     if (es.all fun p => (keyRes es p.1).isSome) && h1.all (selfB h1.length) && decide (base ≤ h.length) && decide (h.length ≤ h1.length) && decide (k < h1.length) then
      some (.bool (!es.any fun p => keyRes es p.1 == some true), h1)
     else none
    | _ => none
   | _ => none
  | none => none
 | _ => none
section
variable {k m L base : Nat} {h1 : List Blk} {a b : Value} {es : List (Value × Value)} {arr : Array MapEntry} {clock : Nat} {r : Bool}
abbrev hS (h1 : List Blk) (m : Nat) (arr : Array MapEntry) (clock : Nat) : List Blk := h1.set m (.mapS 50 arr clock)
theorem hS_at {i : Nat} (hi : i ≠ m) : (hS h1 m arr clock)[i]? = h1[i]? := by
 unfold hS
 rw [List.getElem?_set, if_neg (fun e => hi e.symm)]
theorem hS_m (hm : h1[m]? = some (.map 50 es)) : (hS h1 m arr clock)[m]? = some (.mapS 50 arr clock) := by
 have := (List.getElem?_eq_some_iff.1 hm).1
 unfold hS
 rw [List.getElem?_set, if_pos rfl, if_pos this]
theorem app_at {l x : List Blk} {i : Nat} {b : Blk} (h : l[i]? = some b) : (l ++ x)[i]? = some b := by
 have := (List.getElem?_eq_some_iff.1 h).1
 rw [List.getElem?_append_left this]
 exact h
theorem app_end {l x : List Blk} {b : Blk} : (l ++ b :: x)[l.length]? = some b := by simp
theorem reached_in (hk : h1[k]? = some (.cells 126 [a, b, .map (some m)])) (hm : h1[m]? = some (.map 50 es)) (hkv : arr.toList.map (fun e => (e.key, e.val)) = es) {k' : Value} (hf : isFlat k' = true) {q : Bool} (hP : PureSim Try.prog 68 [.pointer (some ⟨0, 0, none⟩), k'] (hc es) (.bool q) []) (x : List Blk) :
 PureSim Try.prog 68 [.pointer (some ⟨k, 0, none⟩), k'] (hS h1 m arr clock ++ x) (.bool q) [] := by
 have hkm : k ≠ m := fun e => by rw [e, hm] at hk; cases hk
 refine PureSim.ren (fun i => if i = 0 then (k, 0) else (m, 0)) hP (.cons (.inr ⟨_, app_at ((hS_at hkm).trans hk), ?_⟩) (.cons (.inr ⟨_, app_at (hS_m hm), ?_⟩) (.nil _))) ?_ (.flat rfl) (fun b hb => by cases hb)
 · exact RnB.lit (.cons (.poison _ rfl) (.cons (.poison _ rfl) (.cons (.map 1 (by simp [hc])) .nil)))
 · exact RnB.mapW 50 arr clock es hkv
 exact .cons (.ptr 0 0 0 (by simp [hc]) rfl) (.cons (.flat hf) .nil)
theorem set_iter {l : List Blk} {b c : Blk} {n : Nat} (hn : l.length = n) : (l ++ [b]).set n c = l ++ [c] := by subst hn; simp
theorem hS_len : (hS h1 m arr clock).length = h1.length := by simp [hS]
theorem cutEnd {a a2 : CAct} (hm : h1[m]? = some (.map 50 es)) (hself : h1.all (selfB h1.length) = true) (hbase : base ≤ h1.length) (hL : L ≤ h1.length)
 (hkv : arr.toList.map (fun e => (e.key, e.val)) = es) (x : List Blk) (ht : LRn true (fun i => (i, 0)) h1.length a2.tmps a.tmps) (h3 : a.marks = []) (h4 : a2.marks = []) : Wk Try.prog base L a (hS h1 m arr clock ++ x) a2 h1 := by
 refine Wk.cut hL hbase (fun i b hb => ?_) ht h3 h4
 by_cases hi : i = m
 · subst hi
   rw [hm] at hb
   cases hb
   exact .inr ⟨_, app_at (hS_m hm), RnB.mapW 50 arr clock es hkv⟩
 rcases selfB_at (Nat.le_refl _) (List.all_eq_true.1 hself b (List.mem_of_getElem? hb)) with e | hr
 · exact .inl e
 exact .inr ⟨b, app_at ((hS_at hi).trans hb), hr⟩
theorem cutOn {a a2 : CAct} {seen : Array Nat} (hm : h1[m]? = some (.map 50 es)) (hself : h1.all (selfB h1.length) = true) (hbase : base ≤ h1.length) (hL : L ≤ h1.length)
 (x : List Blk) (ht : LRn true (fun i => (i, 0)) (h1.length + 1) a2.tmps a.tmps) (h3 : a.marks = []) (h4 : a2.marks = []) : Wk Try.prog base L a (hS h1 m arr clock ++ .iter m clock seen clock :: x) a2 (hS h1 m arr clock ++ [.iter m clock seen clock]) := by
 have hl2 : (hS h1 m arr clock ++ [Blk.iter m clock seen clock]).length = h1.length + 1 := by simp [hS]
 have hml := (List.getElem?_eq_some_iff.1 hm).1
 have := Wk.cut (P := Try.prog) (L := L) (base := base) (a := a) (a2 := a2) (h := hS h1 m arr clock) (x := .iter m clock seen clock :: x) (h2 := hS h1 m arr clock ++ [.iter m clock seen clock]) (by omega) (by omega) (fun i b hb => ?_) (by rw [hl2]; exact ht) h3 h4
 · exact this
 rw [hl2]
 by_cases hil : i < h1.length
 · rw [List.getElem?_append_left (by rw [hS_len]; exact hil)] at hb
   by_cases hi : i = m
   · subst hi
     rw [hS_m hm] at hb
     cases hb
     exact .inr ⟨_, app_at (hS_m hm), RnB.mapS 50 arr clock⟩
   rw [hS_at hi] at hb
   rcases selfB_at (Nat.le_succ _) (List.all_eq_true.1 hself b (List.mem_of_getElem? hb)) with e | hr
   · exact .inl e
   exact .inr ⟨b, app_at ((hS_at hi).trans hb), hr⟩
 have hi : i = h1.length := by
  have := (List.getElem?_eq_some_iff.1 hb).1
  omega
 subst hi
 rw [← hS_len (h1 := h1) (m := m) (arr := arr) (clock := clock), app_end] at hb
 cases hb
 refine .inr ⟨_, by show (hS h1 m arr clock ++ _ :: x)[h1.length]? = _; rw [← hS_len (h1 := h1) (m := m) (arr := arr) (clock := clock)]; exact app_end, RnB.iter (f := fun i => (i, 0)) m clock seen clock (by omega)⟩
theorem born_inj {x y : MapEntry} : ∀ {l : List MapEntry}, (l.map (·.born)).Nodup → x ∈ l → y ∈ l → x.born = y.born → x = y
 | [], _, h, _, _ => by cases h
 | z :: l, hn, hx, hy, hxy => by
  have hn' : z.born ∉ l.map (·.born) ∧ (l.map (·.born)).Nodup := List.nodup_cons.1 hn
  rcases List.mem_cons.1 hx with h2 | h2 <;> rcases List.mem_cons.1 hy with h3 | h3
  · rw [h2, h3]
  · exact absurd (List.mem_map.2 ⟨y, h3, by rw [← h2, hxy]⟩) hn'.1
  · exact absurd (List.mem_map.2 ⟨x, h2, by rw [← h3, hxy]⟩) hn'.1
  exact born_inj hn'.2 h2 h3 hxy
def LoopEnd (h1 : List Blk) (es : List (Value × Value)) : Post := fun e x h =>
 h = h1 ∧ ((e = .exit 0 ∧ x = st 22 [(15, .bool false)] ∧ (∀ p ∈ es, keyRes es p.1 ≠ some true)) ∨ (e = .ret ∧ x = st 22 [(4, .bool false)] ∧ ∃ p ∈ es, keyRes es p.1 = some true))
theorem loop (hk : h1[k]? = some (.cells 126 [a, b, .map (some m)])) (hm : h1[m]? = some (.map 50 es)) (hself : h1.all (selfB h1.length) = true) (hall : ∀ p ∈ es, (keyRes es p.1).isSome = true) (hbase : base ≤ h1.length) (hL : L ≤ h1.length)
 (hkv : arr.toList.map (fun e => (e.key, e.val)) = es) (hst : Stamped arr clock) : ∀ (f : Nat) (seen : Array Nat), (leftOf arr seen).size < f → (∀ e ∈ arr.toList, e ∈ (leftOf arr seen).toList ∨ keyRes es e.key ≠ some true) →
 TL Try.prog base L c57.s2.s2.s1.s2.bd.bd (st 22 [(0, .pointer (some ⟨k, 0, none⟩)), (13, .pointer (some ⟨h1.length, 0, none⟩))]) (hS h1 m arr clock ++ [.iter m clock seen clock]) (LoopEnd h1 es) := by
 have hlen : (hS h1 m arr clock).length = h1.length := hS_len
 have hkl := (List.getElem?_eq_some_iff.1 hk).1
 intro f
 induction f with
 | zero => intro seen hf; omega
 | succ f ih =>
  intro seen hf hseen
  refine TL.round ?_
  refine TS.seq' (x := c57.s2.s2.s1.s2.bd.bd.s1) (y := c57.s2.s2.s1.s2.bd.bd.s2) (by kernel_rfl) ?_
  refine TS.region' (id := 3) (b := false) (ops := c57.s2.s2.s1.s2.bd.bd.s1.rops) (by kernel_rfl) rfl ?_
  refine TI.next (it := .tmp 13) (i := h1.length) (m := m) (since := clock) (last := clock) (seen := seen) (arr := arr) (clock := clock) (kt := 50) (by kernel_rfl) (by kernel_rfl) hbase (by rw [← hlen]; exact app_end) (app_at (hS_m hm)) hst.1 (Nat.le_refl _) (fun h0 => ?_) (fun e he => ?_)
  · refine TI.val [15] (v := .bool false) (a2 := (st 22 [(15, .bool false)])) (by kernel_rfl) (by kernel_rfl) ?_
    refine TI.weak (cutEnd (a2 := st 22 [(15, .bool false)]) hm hself hbase hL hkv _ (LRn.st (by kernel_rfl) rfl fun x hx v' hv' => by
     simp only [List.mem_cons, List.not_mem_nil, or_false] at hx
     subst hx
     have : v' = .bool false := Option.some.inj (hv'.symm.trans (by kernel_rfl))
     subst this
     exact .flat rfl) rfl rfl) ?_
    refine TI.done (by kernel_rfl) ?_
    refine NX.sq ?_
    refine TS.seq' (x := c57.s2.s2.s1.s2.bd.bd.s2.s1) (y := c57.s2.s2.s1.s2.bd.bd.s2.s2) (by kernel_rfl) ?_
    refine TS.condF' (o := (.tmp 15)) (x := c57.s2.s2.s1.s2.bd.bd.s2.s1.th) (y := c57.s2.s2.s1.s2.bd.bd.s2.s1.el) (by kernel_rfl) (by kernel_rfl) ?_
    refine TS.exit' (id := 0) (by kernel_rfl) ?_
    refine NX.sqX ?_
    refine Rd.out (by simp) ⟨rfl, .inl ⟨rfl, rfl, fun p hp => ?_⟩⟩
    rw [← hkv] at hp
    obtain ⟨e, he, rfl⟩ := List.mem_map.1 hp
    rcases hseen e he with h2 | h2
    · rw [Array.size_eq_zero_iff.1 h0] at h2
      cases h2
    exact h2
  rw [set_iter hlen]
  have heArr := left_mem he
  have hmem : (e.key, e.val) ∈ es := by rw [← hkv]; exact List.mem_map.2 ⟨e, heArr, rfl⟩
  obtain ⟨bq, hbq⟩ : ∃ b, keyRes es e.key = some b := Option.isSome_iff_exists.1 (hall (e.key, e.val) hmem)
  obtain ⟨t, q, k', hkey, hflat, h72, h68⟩ := keyRes_spec hbq
  have hless := left_less he
  have hnext : ∀ x ∈ arr.toList, x ∈ (leftOf arr (seen.push e.born)).toList ∨ x = e ∨ keyRes es x.key ≠ some true := fun x hx => by
   rcases hseen x hx with h2 | h2
   · by_cases hxe : x.born = e.born
     · exact .inr (.inl (born_inj hst.2 hx heArr hxe))
     left
     have h3 : x ∈ arr.toList ∧ seen.contains x.born = false := by simpa [leftOf] using h2
     unfold leftOf
     rw [Array.toList_filter, List.mem_filter]
     refine ⟨h3.1, ?_⟩
     rw [Array.contains_push, h3.2]
     simpa using hxe
   exact .inr (.inr h2)
  refine TI.val [0, 13, 15] (v := .bool true) (a2 := (st 22 [(0, .pointer (some ⟨k, 0, none⟩)), (13, .pointer (some ⟨h1.length, 0, none⟩)), (15, .bool true)])) (by kernel_rfl) (by kernel_rfl) ?_
  refine TI.done (by kernel_rfl) ?_
  refine NX.sq ?_
  refine TS.seq' (x := c57.s2.s2.s1.s2.bd.bd.s2.s1) (y := c57.s2.s2.s1.s2.bd.bd.s2.s2) (by kernel_rfl) ?_
  refine TS.condT' (o := (.tmp 15)) (x := c57.s2.s2.s1.s2.bd.bd.s2.s1.th) (y := c57.s2.s2.s1.s2.bd.bd.s2.s1.el) (by kernel_rfl) (by kernel_rfl) ?_
  refine TS.skip' (by kernel_rfl) ?_
  refine NX.sq ?_
  refine TS.block' (id := 1) (x := c57.s2.s2.s1.s2.bd.bd.s2.s2.bd) (by kernel_rfl) ?_
  refine TS.seq' (x := c57.s2.s2.s1.s2.bd.bd.s2.s2.bd.s1) (y := c57.s2.s2.s1.s2.bd.bd.s2.s2.bd.s2) (by kernel_rfl) ?_
  refine TS.region' (id := 4) (b := false) (ops := c57.s2.s2.s1.s2.bd.bd.s2.s2.bd.s1.rops) (by kernel_rfl) rfl ?_
  refine TI.entry (it := .tmp 13) (i := h1.length) (m := m) (since := clock) (seen := seen) (arr := arr) (clock := clock) (kt := 50) (e := e) (a1 := putAt c57.s2.s2.s1.s2.bd.bd.s2.s2.bd.s1.rops 0 (st 22 [(0, .pointer (some ⟨k, 0, none⟩)), (13, .pointer (some ⟨h1.length, 0, none⟩)), (15, .bool true)]) (.tuple #[.agg ⟨[.int .i64 t, .bool q]⟩, e.val])) (by kernel_rfl) (by kernel_rfl) (by rw [← hlen]; exact app_end) (app_at (hS_m hm)) heArr hst.2 (by rw [hkey]) ?_
  refine TI.val [0, 13, 17] (v := .agg ⟨[.int .i64 t, .bool q]⟩) (a2 := (st 22 [(0, .pointer (some ⟨k, 0, none⟩)), (13, .pointer (some ⟨h1.length, 0, none⟩)), (17, .agg ⟨[.int .i64 t, .bool q]⟩)])) (by kernel_rfl) (by kernel_rfl) ?_
  generalize hH : hS h1 m arr clock ++ [Blk.iter m clock (seen.push e.born) clock] = H
  have hHl : H.length = h1.length + 1 := by rw [← hH]; simp [hS]
  refine TI.new1 [0, 5, 13, 17] (v := .pointer (some ⟨H.length, 0, none⟩)) (b := .cells 50 [.int .i64 0, .bool false]) (a2 := (st 22 [(0, .pointer (some ⟨k, 0, none⟩)), (5, .pointer (some ⟨H.length, 0, none⟩)), (13, .pointer (some ⟨h1.length, 0, none⟩)), (17, .agg ⟨[.int .i64 t, .bool q]⟩)])) (by kernel_rfl) (by kernel_rfl) ?_
  refine TI.upd1 [0, 5, 13] (v := undef) (k := H.length) (b := .cells 50 [.int .i64 t, .bool q]) (a2 := (st 22 [(0, .pointer (some ⟨k, 0, none⟩)), (5, .pointer (some ⟨H.length, 0, none⟩)), (13, .pointer (some ⟨h1.length, 0, none⟩))])) (Eq.trans (b := cStore Try.prog base (H ++ [.cells 50 [.int .i64 0, .bool false]]) 50 (.pointer (some ⟨H.length, 0, none⟩)) (.agg ⟨[.int .i64 t, .bool q]⟩)) (by kernel_rfl) (cStore_pair app_end (by omega) (by kernel_rfl))) (by kernel_rfl) ?_
  rw [set_iter rfl]
  refine TI.done (by kernel_rfl) ?_
  refine NX.sq ?_
  refine TS.seq' (x := c57.s2.s2.s1.s2.bd.bd.s2.s2.bd.s2.s1) (y := c57.s2.s2.s1.s2.bd.bd.s2.s2.bd.s2.s2) (by kernel_rfl) ?_
  refine TS.region' (id := 5) (b := false) (ops := c57.s2.s2.s1.s2.bd.bd.s2.s2.bd.s2.s1.rops) (by kernel_rfl) rfl ?_
  refine TI.val [0, 5, 13, 18] (v := .pointer (some ⟨k, 0, none⟩)) (a2 := (st 22 [(0, .pointer (some ⟨k, 0, none⟩)), (5, .pointer (some ⟨H.length, 0, none⟩)), (13, .pointer (some ⟨h1.length, 0, none⟩)), (18, .pointer (some ⟨k, 0, none⟩))])) (by kernel_rfl) (by kernel_rfl) ?_
  refine TI.val [0, 13, 18, 19] (v := .agg ⟨[.int .i64 t, .bool q]⟩) (a2 := (st 22 [(0, .pointer (some ⟨k, 0, none⟩)), (13, .pointer (some ⟨h1.length, 0, none⟩)), (18, .pointer (some ⟨k, 0, none⟩)), (19, .agg ⟨[.int .i64 t, .bool q]⟩)])) (Eq.trans (b := qv (cLoad Try.prog (H ++ [.cells 50 [.int .i64 t, .bool q]]) 50 (.pointer (some ⟨H.length, 0, none⟩)))) (by kernel_rfl) (by rw [cLoad_agg app_end (by kernel_rfl) (n := 2) (by kernel_rfl) rfl]; rfl)) (by kernel_rfl) ?_
  refine TI.pcall [0, 13, 18, 20] (g := 72) (args := [.agg ⟨[.int .i64 t, .bool q]⟩]) (v := k') (a2 := (st 22 [(0, .pointer (some ⟨k, 0, none⟩)), (13, .pointer (some ⟨h1.length, 0, none⟩)), (18, .pointer (some ⟨k, 0, none⟩)), (20, k')])) (by kernel_rfl) (PureSim.any (hkey ▸ h72) (flatL (by rfl)) hflat _) (by kernel_rfl) ?_
  rw [← hH, List.append_assoc]
  refine TI.pcall [0, 13, 21] (g := 68) (args := [.pointer (some ⟨k, 0, none⟩), k']) (v := .bool bq) (a2 := (st 22 [(0, .pointer (some ⟨k, 0, none⟩)), (13, .pointer (some ⟨h1.length, 0, none⟩)), (21, .bool bq)])) (by kernel_rfl) (reached_in hk hm hkv hflat h68 _) (by kernel_rfl) ?_
  refine TI.done (by kernel_rfl) ?_
  refine NX.sq ?_
  cases bq with
  | true =>
   refine TS.condT' (o := (.tmp 21)) (x := c57.s2.s2.s1.s2.bd.bd.s2.s2.bd.s2.s2.th) (y := c57.s2.s2.s1.s2.bd.bd.s2.s2.bd.s2.s2.el) (by kernel_rfl) (by kernel_rfl) ?_
   refine TS.seq' (x := c57.s2.s2.s1.s2.bd.bd.s2.s2.bd.s2.s2.th.s1) (y := c57.s2.s2.s1.s2.bd.bd.s2.s2.bd.s2.s2.th.s2) (by kernel_rfl) ?_
   refine TS.region' (id := 6) (b := false) (ops := c57.s2.s2.s1.s2.bd.bd.s2.s2.bd.s2.s2.th.s1.rops) (by kernel_rfl) rfl ?_
   refine TI.weak (cutEnd (a2 := st 22 []) hm hself hbase hL hkv _ (LRn.st (by kernel_rfl) rfl (fun x hx => by cases hx)) rfl rfl) ?_
   refine TI.val [4] (v := .bool false) (a2 := (st 22 [(4, .bool false)])) (by kernel_rfl) (by kernel_rfl) ?_
   refine TI.done (by kernel_rfl) ?_
   refine NX.sq ?_
   refine TS.ret' (by kernel_rfl) ?_
   refine NX.bkR ?_
   exact Rd.out (by simp) ⟨rfl, .inr ⟨rfl, rfl, (e.key, e.val), hmem, hbq⟩⟩
  | false =>
   refine TS.condF' (o := (.tmp 21)) (x := c57.s2.s2.s1.s2.bd.bd.s2.s2.bd.s2.s2.th) (y := c57.s2.s2.s1.s2.bd.bd.s2.s2.bd.s2.s2.el) (by kernel_rfl) (by kernel_rfl) ?_
   refine TS.skip' (by kernel_rfl) ?_
   refine NX.bk ?_
   refine Rd.again (cutOn (a2 := st 22 [(0, .pointer (some ⟨k, 0, none⟩)), (13, .pointer (some ⟨h1.length, 0, none⟩))]) hm hself hbase hL _ ?_ rfl rfl) (ih (seen.push e.born) (by omega) fun x hx => ?_)
   · refine LRn.st (by kernel_rfl) rfl fun x hx v' hv' => ?_
     simp only [List.mem_cons, List.not_mem_nil, or_false] at hx
     rcases hx with rfl | rfl
     · have : v' = .pointer (some ⟨k, 0, none⟩) := Option.some.inj (hv'.symm.trans (by kernel_rfl))
       subst this
       exact .ptr k 0 0 (by omega) rfl
     have : v' = .pointer (some ⟨h1.length, 0, none⟩) := Option.some.inj (hv'.symm.trans (by kernel_rfl))
     subst this
     exact .ptr _ 0 0 (by omega) rfl
   rcases hnext x hx with h2 | rfl | h2
   · exact .inl h2
   · exact .inr (by rw [hbq]; simp)
   exact .inr h2
theorem agrees_spec {g v0 : Value} {h : List Blk} (h67 : ImpSim Try.prog 67 [.pointer (some ⟨k, 0, none⟩), g] base h v0 h1) (hk : h1[k]? = some (.cells 126 [a, b, .map (some m)])) (hm : h1[m]? = some (.map 50 es)) (hself : h1.all (selfB h1.length) = true)
 (hall : ∀ p ∈ es, (keyRes es p.1).isSome = true) (hbase : base ≤ h1.length) (hL : h.length ≤ h1.length) :
 ImpSim Try.prog 57 [.pointer (some ⟨k, 0, none⟩), g] base h (.bool (!es.any fun p => keyRes es p.1 == some true)) h1 := by
 refine ImpSim.of_TS (fn := Try.f57) (c := c57) (by kernel_rfl) (by kernel_rfl) (by kernel_rfl) hL ?_
 refine TS.weak (a2 := st 22 [(0, .pointer (some ⟨k, 0, none⟩)), (1, g)]) (h2 := h) (a := { tmps := [.pointer (some ⟨k, 0, none⟩), g] ++ List.replicate 20 undef }) (Eq.mp (by kernel_rfl) (Wk.tm (P := Try.prog) (base := base) (L := h.length) (a := { tmps := [.pointer (some ⟨k, 0, none⟩), g] ++ List.replicate 20 undef }) (h := h) [0, 1])) ?_
 refine TS.start ?_
 refine TS.seq' (x := c57.s1) (y := c57.s2) (by kernel_rfl) ?_
 refine TS.region' (id := 0) (b := false) (ops := c57.s1.rops) (by kernel_rfl) rfl ?_
 refine TI.val [0, 1] (v := .bool false) (a2 := st 22 [(0, .pointer (some ⟨k, 0, none⟩)), (1, g)]) (by kernel_rfl) (by kernel_rfl) ?_
 refine TI.done (by kernel_rfl) ?_
 refine NX.sq ?_
 refine TS.seq' (x := c57.s2.s1) (y := c57.s2.s2) (by kernel_rfl) ?_
 refine TS.region' (id := 1) (b := false) (ops := c57.s2.s1.rops) (by kernel_rfl) rfl ?_
 refine TI.val [0, 1, 6] (v := .pointer (some ⟨k, 0, none⟩)) (a2 := st 22 [(0, .pointer (some ⟨k, 0, none⟩)), (1, g), (6, .pointer (some ⟨k, 0, none⟩))]) (by kernel_rfl) (by kernel_rfl) ?_
 refine TI.val [0, 6, 7] (v := g) (a2 := st 22 [(0, .pointer (some ⟨k, 0, none⟩)), (6, .pointer (some ⟨k, 0, none⟩)), (7, g)]) (by kernel_rfl) (by kernel_rfl) ?_
 refine TI.icallT [0] (a2 := st 22 [(0, .pointer (some ⟨k, 0, none⟩))]) (by kernel_rfl) h67 (by kernel_rfl) ?_
 refine TI.done (by kernel_rfl) ?_
 refine NX.sq ?_
 refine TS.seq' (x := c57.s2.s2.s1) (y := c57.s2.s2.s2) (by kernel_rfl) ?_
 refine TS.seq' (x := c57.s2.s2.s1.s1) (y := c57.s2.s2.s1.s2) (by kernel_rfl) ?_
 refine TS.region' (id := 2) (b := false) (ops := c57.s2.s2.s1.s1.rops) (by kernel_rfl) rfl ?_
 refine TI.val [0, 9] (v := .pointer (some ⟨k, 0, none⟩)) (a2 := st 22 [(0, .pointer (some ⟨k, 0, none⟩)), (9, .pointer (some ⟨k, 0, none⟩))]) (by kernel_rfl) (by kernel_rfl) ?_
 refine TI.val [0, 10] (v := .pointer (some ⟨k, 0, none⟩)) (a2 := st 22 [(0, .pointer (some ⟨k, 0, none⟩)), (10, .pointer (some ⟨k, 0, none⟩))]) (by kernel_rfl) (by kernel_rfl) ?_
 refine TI.val [0, 11] (v := .pointer (some ⟨k, 2, none⟩)) (a2 := st 22 [(0, .pointer (some ⟨k, 0, none⟩)), (11, .pointer (some ⟨k, 2, none⟩))]) (by kernel_rfl) (by kernel_rfl) ?_
 refine TI.val [0, 12] (v := .map (some m)) (a2 := st 22 [(0, .pointer (some ⟨k, 0, none⟩)), (12, .map (some m))]) (Eq.trans (b := qv (cLoad Try.prog h1 124 (.pointer (some ⟨k, 2, none⟩)))) (by kernel_rfl) (by rw [cLoad_one hk (by kernel_rfl) rfl]; rfl)) (by kernel_rfl) ?_
 unfold TI
 refine TO.stamp hm fun arr clock hkv _ hst => ?_
 refine (show TI Try.prog base h.length c57.s2.s2.s1.s1.rops 4 (st 22 [(0, .pointer (some ⟨k, 0, none⟩)), (12, .map (some m))]) (hS h1 m arr clock) _ from ?_)
 have hmS : (hS h1 m arr clock)[m]? = some (.mapS 50 arr clock) := hS_m hm
 refine TI.range (t := 124) (k := 50) (e := 50) (m := m) (kt := 50) (x := .tmp 12) (arr := arr) (clock := clock) (by kernel_rfl) (by kernel_rfl) (by kernel_rfl) hmS rfl rfl ?_
 refine TI.weak (Wk.tm [0, 13]) ?_
 rw [hS_len]
 refine TI.done (by kernel_rfl) ?_
 refine NX.sq ?_
 refine TS.block' (id := 0) (x := c57.s2.s2.s1.s2.bd) (by kernel_rfl) ?_
 refine TS.loop' (x := c57.s2.s2.s1.s2.bd.bd) (by kernel_rfl) ?_
 refine TL.mono (Φ := LoopEnd h1 es) (loop hk hm hself hall hbase hL hkv hst _ #[] (Nat.lt_succ_self _) fun e he => .inl (by rw [left_all]; exact he)) ?_
 rintro e x h2 ⟨rfl, ⟨rfl, rfl, hno⟩ | ⟨rfl, rfl, p, hp, hyes⟩⟩
 · refine NX.bkX ?_
   refine NX.sq ?_
   refine TS.seq' (x := c57.s2.s2.s2.s1) (y := c57.s2.s2.s2.s2) (by kernel_rfl) ?_
   refine TS.region' (id := 7) (b := false) (ops := c57.s2.s2.s2.s1.rops) (by kernel_rfl) rfl ?_
   refine TI.val [4] (v := .bool true) (a2 := st 22 [(4, .bool true)]) (by kernel_rfl) (by kernel_rfl) ?_
   refine TI.done (by kernel_rfl) ?_
   refine NX.sq ?_
   refine TS.ret' (by kernel_rfl) ?_
   refine ⟨.inr rfl, rfl, rfl, ?_⟩
   have : (es.any fun p => keyRes es p.1 == some true) = false := by
    rw [List.any_eq_false]
    intro p hp
    simpa using hno p hp
   rw [this]
   exact (by kernel_rfl : cResults Try.prog Try.f57 (st 22 [(4, .bool true)]) h2 = some (.bool true))
 refine NX.bkR ?_
 refine NX.sqR ?_
 refine ⟨.inr rfl, rfl, rfl, ?_⟩
 have : (es.any fun p => keyRes es p.1 == some true) = true := List.any_eq_true.2 ⟨p, hp, by rw [hyes]; rfl⟩
 rw [this]
 exact (by kernel_rfl : cResults Try.prog Try.f57 (st 22 [(4, .bool false)]) h2 = some (.bool false))
end
theorem sAgrees_sound {args : List Value} {base : Nat} {h h1 : List Blk} {v : Value} (hs : sAgrees args base h = some (v, h1)) : ImpSim Try.prog 57 args base h v h1 := by
 unfold sAgrees at hs
 split at hs
 · rename_i k g
   split at hs
   · rename_i v0 h2 h67
     split at hs
     · rename_i a b m hk
       split at hs
       · rename_i es hm
         split at hs
         · rename_i hc
           cases hs
           simp only [Bool.and_eq_true, decide_eq_true_eq] at hc
           obtain ⟨⟨⟨⟨h3, h4⟩, h5⟩, h6⟩, _⟩ := hc
           exact agrees_spec (sReach_sound h67) hk hm h4 (fun p hp => List.all_eq_true.1 h3 p hp) (by omega) h6
         cases hs
       cases hs
     cases hs
   cases hs
 cases hs
noncomputable def sums (f : FuncId) : Option (List Value → Nat → List Blk → Option (Value × List Blk)) := if f = 57 then some sAgrees else if f = 67 then some sReach else none
theorem sums_ok (g : FuncId) (s) (args : List Value) (base : Nat) (h : List Blk) (v : Value) (h1 : List Blk) (hs : sums g = some s) (hv : s args base h = some (v, h1)) : ImpSim env0.P g args base h v h1 := by
 unfold sums at hs
 split at hs
 · rename_i hg
   subst hg
   cases hs
   exact sAgrees_sound hv
 split at hs
 · rename_i hg
   subst hg
   cases hs
   exact sReach_sound hv
 cases hs
end Go.Proofs.Ytiaippkjgmccoaa.agrees
