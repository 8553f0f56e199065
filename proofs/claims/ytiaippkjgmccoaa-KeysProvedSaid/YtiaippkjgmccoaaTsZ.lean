/- The framework, Ts15 to Ts29. -/
import Derived.Test.YtiaippkjgmccoaaTs14
import Derived.Test.YtiaippkjgmccoaaTs8
import Derived.Test.YtiaippkjgmccoaaTs10
set_option linter.unusedVariables false
namespace Go.Cl
open Go Go.RowKit
section
variable {P : Program} {base L : Nat} {ops : Array Oper} {rest : List Oper} {o : Oper} {a a1 a2 : CAct} {h h1 h2 : List Blk} {Ψ : CAct → List Blk → Prop}
end
end Go.Cl
set_option linter.unusedVariables false
namespace Go.Cl
open Go Go.RowKit
section
variable {P : Program} {base L : Nat} {c x y : Code} {a a1 a2 : CAct} {h h1 h2 : List Blk} {Φ Ψ : Post} {e : Exit}
variable {K : List Fr}
end
end Go.Cl
set_option linter.unusedVariables false
namespace Go.Cl
open Go Go.RowKit
end Go.Cl
set_option linter.unusedVariables false
namespace Go.Cl
open Go Go.RowKit
section
variable {α β : Type} [DecidableEq α]
variable {kv : α → Value} {vv : β → Value}
variable {P : Program} {hp : List Blk} {t kt et : TypeId} {r base : Nat} {l : List (α × β)} {k : α} {key val : Value} {x : Option QRes}
end
end Go.Cl
set_option linter.unusedVariables false
namespace Go.Cl
open Go Go.RowKit
end Go.Cl
set_option linter.unusedVariables false
namespace Go
end Go
namespace Go.Cl
open Go Go.RowKit
section
variable {P : Program} {base L : Nat} {ops : Array Oper} {rest : List Oper} {o : Oper} {a a1 a2 : CAct} {h h1 h2 : List Blk} {Ψ : CAct → List Blk → Prop} {j : Nat}
end
section
variable {P : Program} {base L : Nat} {c x y : Code} {a a1 a2 : CAct} {h h1 h2 : List Blk} {Φ Ψ : Post} {e : Exit} {K : List Fr}
end
end Go.Cl
set_option linter.unusedVariables false
namespace Go.Cl
open Go Go.RowKit
section
variable {α : Type} {enc : α → List Value} {s : Nat} {L ys : List α} {off k : Nat}
def winAt (off s : Nat) (L ys : List α) : Prop := ys = [] ∨ ∃ st, off = st * s ∧ ys = (L.drop st).take ys.length ∧ st + ys.length ≤ L.length
theorem win_all : winAt 0 s L L := .inr ⟨0, by simp, by simp, by simp⟩
theorem win_drop (h : winAt off s L ys) (k : Nat) : winAt (off + k * s) s L (ys.drop k) := by
 rcases h with rfl | ⟨st, h1, h2, h3⟩
 · exact .inl (by simp)
 by_cases hk : ys.length ≤ k
 · exact .inl (List.drop_eq_nil_of_le hk)
 have e : ys.drop k = (L.drop (st + k)).take (ys.length - k) := by
  conv => lhs; rw [h2]
  rw [List.drop_take, List.drop_drop]
 refine .inr ⟨st + k, by rw [h1, Nat.add_mul], ?_, by simp only [List.length_drop]; omega⟩
 rw [e]
 congr 1
 simp only [List.length_take, List.length_drop]
 omega
def Holds (hp : List Blk) (b : Nat) (T : TypeId) (enc : α → List Value) (L : List α) : Prop := L = [] ∨ hp[b]? = some (.cells T (L.flatMap enc))
theorem holds_acc {hp : List Blk} {b : Nat} {T : TypeId} (h : hp[b]? = some (accB T L.length (L.flatMap enc))) : Holds hp b T enc L := by
 by_cases h0 : L.length = 0
 · exact .inl (List.length_eq_zero_iff.1 h0)
 rw [accB, if_neg h0] at h; exact .inr h
variable {hp : List Blk} {b : Nat} {T : TypeId} {P : Program} {x : Option QRes}
theorem win_cells (hw : winAt off s L ys) (hb : Holds hp b T enc L) (hy : ¬ ys.length = 0) : ∃ st, off = st * s ∧ ys = (L.drop st).take ys.length ∧ st + ys.length ≤ L.length ∧ hp[b]? = some (.cells T (L.flatMap enc)) := by
 rcases hw with rfl | ⟨st, h1, h2, h3⟩
 · exact absurd rfl hy
 refine ⟨st, h1, h2, h3, hb.resolve_left fun h => ?_⟩
 subst h
 simp only [List.length_nil] at h3
 omega
theorem win_elem (hw : winAt off s L ys) (hb : Holds hp b T enc L) {i : Nat} (hi : i < ys.length) (d : α) : ∃ j, off + i * s = j * s ∧ j < L.length ∧ L.getD j d = ys.getD i d ∧ hp[b]? = some (.cells T (L.flatMap enc)) := by
 obtain ⟨st, h1, h2, h3, h4⟩ := win_cells hw hb (by omega)
 refine ⟨st + i, by rw [h1, Nat.add_mul], by omega, ?_, h4⟩
 rw [h2]
 simp only [List.getD_eq_getElem?_getD, List.getElem?_take, List.getElem?_drop, if_pos hi]
theorem q_ldAW {t : TypeId} {o i : Nat} (hw : winAt off s L ys) (hb : Holds hp b T enc L) (h : x = qv (cLoad P hp t (.pointer (some ⟨b, o, none⟩)))) (ha : aggT P t = some true) (hs : sizeT P t = some s) (hl : ∀ y, (enc y).length = s)
 (ho : o = off + i * s) (hi : i < ys.length) (d : α) : x = some { val := .agg ⟨enc (ys.getD i d)⟩ } := by
 obtain ⟨j, h1, h2, h3, h4⟩ := win_elem hw hb hi d
 rw [← h3]
 exact q_ldA h h4 ha hs hl (ho.trans h1) h2 d
end
section
variable {P : Program} {x : Option QRes} {t e : TypeId} {s b off n : Nat} {k k' : IntKind} {y z : Int} {α : Type} {ys : List α}
theorem q_slAlo (h : x = qv (cSlice P t (.slice (some ⟨b, off, none⟩) ys.length ANY) (some (.int k y)) none none)) (he : P.underlying t = some (.slice e)) (hs : sizeT P e = some s) (hy : 0 ≤ y ∧ y ≤ (ys.length : Int)) :
 x = some { val := .slice (some ⟨b, off + Int.toNat y * s, none⟩) (ys.drop (Int.toNat y)).length ANY } := by
 rw [q_slA h he hs (cb_lo hy), List.length_drop]
end
section
variable {P : Program} {base n m s b off : Nat} {x : Option QRes} {hp : List Blk} {α : Type} {enc : α → List Value} {L l ys : List α} {ts : Array TypeId} {e t : TypeId} {bytes : Nat} {z y : Value}
end
section
variable {p : Bool} {f : Nat → Nat × Nat} {n i i' c c' : Nat}
end
end Go.Cl
namespace Go.Cl
section
variable {p : Bool} {f : Nat → Nat × Nat} {n i i' c c' : Nat}
end
end Go.Cl
set_option linter.unusedVariables false
namespace Go.Cl
open Go Go.RowKit
section
variable {α β γ : Type} {kv : α → Value} {vv : β → Value} {arr : Array MapEntry} {clock : Nat} {seen : Array Nat} {es : List (α × β)}
end
end Go.Cl
set_option linter.unusedVariables false
namespace Go.Cl
open Go Go.RowKit
section
variable {P : Program} {base L : Nat} {ops : Array Oper} {j : Nat} {a a2 : CAct} {h h2 : List Blk} {Ψ : CAct → List Blk → Prop} {α : Type} {enc : α → List Value} {l ys : List α} {b s : Nat} {ts : Array TypeId} {e : TypeId} {bytes : Nat} {z y : Value}
end
section
variable {P : Program} {base n s b off : Nat} {x : Option QRes} {hp : List Blk} {α : Type} {enc : α → List Value} {L l ys : List α} {ts : Array TypeId} {e t : TypeId} {bytes : Nat} {z y : Value} {k : IntKind} {v w : Int}
end
end Go.Cl
namespace Go.Cl
end Go.Cl
namespace Go.Cl
open Go.WideShapes in
theorem open_sl {P : Program} {w : World} {r : Reach} {b0 : Nat} {t e : TypeId} {v : Value} {a : List Leaf} (hu : P.underlying t = some (.slice e)) (hval : Value.okWide P w r b0 t v) (h : lfits2 w [.list a] v.cells.toList) :
 ∃ rows, SlOk w rows v ∧ ∀ r ∈ rows, lfits a r := by
 obtain ⟨a0, len, cap, rfl⟩ := okWide_slice hu hval
 exact h.1
end Go.Cl
set_option linter.unusedVariables false
namespace Go.Cl
abbrev sv (b n c : Nat) : Value := .slice (some ⟨b, 0, none⟩) n c
section
variable {p : Bool} {f : Nat → Nat × Nat} {n i o o' c len : Nat} {l l' : List Value} {v : Value} {h m : List Blk}
theorem LRn.fl (hl : LRn p f n l l') (h : isFlat v = true := by kernel_rfl) : LRn p f n (v :: l) (v :: l') := .cons (.flat h) hl
theorem LRn.pp (hl : LRn p f n l l') (hi : Nat.ble (i + 1) n = true := by rfl) (ho : o' = (f i).2 + o := by rfl) : LRn p f n (.pointer (some ⟨i, o, none⟩) :: l) (.pointer (some ⟨(f i).1, o', none⟩) :: l') := .cons (.ptr i o o' (Nat.le_of_ble_eq_true hi) ho) hl
theorem LRn.sl (hl : LRn p f n l l') (hi : Nat.ble (i + 1) n = true := by rfl) (h0 : (f i).2 = 0 := by rfl) : LRn p f n (.slice (some ⟨i, o, none⟩) len c :: l) (.slice (some ⟨(f i).1, o, none⟩) len c :: l') := .cons (.slice0 i o len c (Nat.le_of_ble_eq_true hi) h0) hl
theorem Ats.ac {α : Type} {t : TypeId} {enc : α → List Value} {q : List α} (hl : Ats p f n h (i + 1) m) (hb : h[(f i).1]? = some (accB t c (q.flatMap enc)) := by kernel_rfl) (h0 : (f i).2 = 0 := by rfl) (hf : ∀ y, (enc y).all isFlat = true := by exact fun _ => rfl) :
 Ats p f n h i (accB t c (q.flatMap enc) :: m) := .cons (At.acc hb h0 hf) hl
theorem Ats.lt {t : TypeId} (hr : LRn p f n l l') (hl : Ats p f n h (i + 1) m) (hb : h[(f i).1]? = some (.cells t l') := by kernel_rfl) (h0 : (f i).2 = 0 := by rfl) : Ats p f n h i (.cells t l :: m) :=
 .cons (At.blk hb (by rw [h0]; exact RnB.lit hr)) hl
end
abbrev ab {α : Type} (t : TypeId) (e : α → List Value) (l : List α) : Blk := accB t l.length (l.flatMap e)
theorem zip_fst_snd {l : List (Nat × Value)} : (l.map (·.1)).zip (l.map (·.2)) = l := by
 induction l with
 | nil => rfl
 | cons x l ih => simp [ih]
theorem Wk.an {P : Program} {base L m : Nat} {l : List (Nat × Value)} {a : CAct} {h h2 : List Blk} (f : List Nat) (hb : Ats true (fun i => (if i < L then i else f.getD (i - L) 0, 0)) h2.length h 0 h2) (avs : List Value)
 (hr : LRn true (fun i => (if i < L then i else f.getD (i - L) 0, 0)) h2.length (l.map (·.2)) avs) (hf : f.Nodup := by decide) (hge : ∀ i ∈ f, L ≤ i := by decide) (hL : Nat.ble base L = true := by rfl) (hl : h2.length = L + f.length := by rfl)
 (ha : (l.map (·.1)).map (fun i => a.tmps.getD i undef) = avs := by kernel_rfl) (hlen : a.tmps.length = m := by kernel_rfl) (hm : a.marks = [] := by rfl) : Wk P base L a h (Cl.st m l) h2 := by
 refine Wk.anew hf hge (Nat.le_of_ble_eq_true hL) hl hb ?_ hm rfl
 have := LRn.stx (m := m) (l' := a.tmps) (l.map (·.1)) (l.map (·.2)) avs hr ha hlen rfl
 rw [zip_fst_snd] at this
 exact this
end Go.Cl
namespace Go.Cl
section
variable {P : Program} {x : Option QRes} {hp : List Blk} {t T : TypeId} {b o o' i n s k : Nat} {vs : List Value} {α : Type} {enc : α → List Value} {ys : List α}
end
end Go.Cl
namespace Go.Cl
section
variable {x : Option QRes} {α β : Type} [DecidableEq α]
theorem q_n1a {α : Type} (P : Program) (hp : List Blk) (t b off : Nat) (l : List α) (enc : α → List Value) (s T i k : Nat) (d : α) {z : α} (hz : l.getD i d = z) (h : x = qv (cLoad P hp t (.pointer (some ⟨b, off, none⟩))) := by kernel_rfl)
 (hb : hp[b]? = some (accB T l.length (l.flatMap enc)) := by kernel_rfl) (ha : aggT P t = some false := by kernel_rfl) (hl : ∀ y, (enc y).length = s := by exact fun _ => rfl) (ho : off = i * s + k := by omega) (hk : k < s := by decide)
 (hi : i < l.length := by first | omega | (simp <;> omega)) : x = some { val := (enc z).getD k undef } := hz ▸ q_ld1 h (accB_at hb hi) ha hl ho hk hi d
theorem q_nAa {α : Type} (P : Program) (hp : List Blk) (t b off : Nat) (l : List α) (enc : α → List Value) (s T i : Nat) (d : α) {z : α} (hz : l.getD i d = z) (h : x = qv (cLoad P hp t (.pointer (some ⟨b, off, none⟩))) := by kernel_rfl)
 (hb : hp[b]? = some (accB T l.length (l.flatMap enc)) := by kernel_rfl) (ha : aggT P t = some true := by kernel_rfl) (hs : sizeT P t = some s := by kernel_rfl) (hl : ∀ y, (enc y).length = s := by exact fun _ => rfl) (ho : off = i * s := by omega)
 (hi : i < l.length := by first | omega | (simp <;> omega)) : x = some { val := .agg ⟨enc z⟩ } := hz ▸ q_ldA h (accB_at hb hi) ha hs hl ho hi d
end
end Go.Cl
set_option linter.unusedVariables false
namespace Go.Cl
open Go
section
variable {P : Program} {base L : Nat} {a : CAct} {h : List Blk} {ops : Array Oper} {rest : List Oper} {o : Oper} {Ψ : CAct → List Blk → Prop}
end
end Go.Cl
set_option linter.unusedVariables false
namespace Go.Cl
open Go
end Go.Cl
set_option linter.unusedVariables false
namespace Go.Cl
open Go Go.RowKit
section
variable {α : Type} {enc : α → List Value} {s q b n bytes off : Nat} {L ys l : List α} {P : Program} {base : Nat} {hp : List Blk} {x : Option QRes} {t e : TypeId} {k : IntKind} {y : Int} {ts : Array TypeId} {z w : Value}
end
section
variable {α : Type} {enc : α → List Value} {s q b bytes : Nat} {L ys : List α} {P : Program} {base L0 : Nat} {ops : Array Oper} {j : Nat} {a a2 : CAct} {h h2 : List Blk} {Ψ : CAct → List Blk → Prop} {ts : Array TypeId} {e : TypeId} {z y : Value} {xs : List Value} {m : Nat}
end
section
variable {α : Type} {enc : α → List Value} {s q b off m c : Nat} {L : List α} {P : Program} {base : Nat} {hp : List Blk} {T : TypeId}
end
section
variable {α : Type} {p : Bool} {f : Nat → Nat × Nat} {n i i' s q : Nat} {L : List α}
end
end Go.Cl
set_option linter.unusedVariables false
namespace Go.Cl
open Go Go.RowKit
section
variable {α : Type} {enc : α → List Value} {s off b : Nat} {L ys l : List α} {P : Program} {hp : List Blk} {x : Option QRes} {T : TypeId}
end
section
variable {α : Type} {enc : α → List Value} {s b bytes : Nat} {l ys : List α} {f : Bool} {P : Program} {base L0 : Nat} {ops : Array Oper} {j : Nat} {a a2 : CAct} {h h2 : List Blk} {Ψ : CAct → List Blk → Prop} {ts : Array TypeId} {e : TypeId} {z y : Value}
end
section
variable {p : Bool} {f : Nat → Nat × Nat} {n i i' c c' : Nat} {g : Bool}
end
end Go.Cl
set_option linter.unusedVariables false
namespace Go.Cl
open Go Go.RowKit
section
variable {P : Program} {base L : Nat} {c y : Code} {a a1 a2 : CAct} {h h1 h2 new : List Blk} {Φ : Post} {K : List Fr} {ops : Array Oper} {T : List Entry} {fin : QSt} {us : List (Nat × Nat)}
theorem TS.drawT0 (T : List Entry) (hT : ∀ e ∈ T, PureSim P e.g e.args e.h e.v e.new) (hmix : P.follows .mixedOrders = true) {id : Nat} (n : Nat)
 (hn : (edgesBack ops.toList 0 && quietOk ops.toList (Region.before ops).toList n && (tailFrom (Region.before ops).toList ops.size == n)) = true)
 (us : List (Nat × Nat)) (hq : QI P T base ops us n 0 { act := a, heap := h } fin) (hu : fin.upds = us)
 (ht : TI P base L ops n fin.act fin.heap (NX P base L K Φ .normal)) : TS P base L (.region id ops true) a h (NX P base L K Φ) := by
 rintro N D0 β0 κ0 R hR0 w0 w a' Q ⟨D, β, κ, hf⟩ hb0 hQ
 simp only [Bool.and_eq_true, beq_iff_eq] at hn
 obtain ⟨⟨hback, hquiet⟩, hsdef⟩ := hn
 have hD := hf.dom
 have hb := hf.bl
 have hR := hf.rel
 have hA := hf.act
 have hsle : n ≤ ops.size := by rw [← hsdef]; exact tail_le _ _
 have htail : ∀ j i, n ≤ j → j < ops.size → i < j → anc ops j i = true := fun j i h1 h2 h3 => tail_spec _ ops.size j i (by rw [hsdef]; exact h1) h2 h3
 have hq' : quietOps (orc P T) Rec.none base ops.toList (Region.before ops).toList us (ops.toList.take n) 0 { act := a, heap := h } = some fin := hq
 obtain ⟨S, R', g1, g2, g3⟩ := trace _ _ _ _ hq'
 have hlen : (ops.toList.take n).length = n := by simp; omega
 rw [hlen] at g2
 have X : Run (orc P T) Rec.none base ops n us a h S R' := {
   hs := hsle
   s0 := g1
   step := fun j o hj ho => by
     have := g3 j o (by rw [List.getElem?_take, if_pos hj]; simpa using ho)
     rwa [Nat.zero_add] at this
   upds := by rw [g2]; exact hu
   back := hback
   quiet := hquiet
   baseLe := hb }
 refine wpIn_region_any hmix (X.phase1 (D := D) (β0 := β) (κ0 := κ) (N := N) (w0 := w) (a0' := a') (ro := R) (fun h g args v new hc => callQ_sound (orc_ok hT) (none_sound (orc P T) 0) h g args v new hc) hD hA htail ?_ ops.size _ (fun _ => false) β κ a' _ (Inv.start X hD hR hA rfl) (by simp) (fun i hi => ?_) (fun i hi hil => ?_) ?_)
 · intro L' β1 κ1 a2 w2 I hall
   obtain ⟨hO, hA2⟩ := X.outcome hD hA I hall
   rw [g2] at hO hA2
   exact ht N D0 β0 κ0 R hR0 w0 w2 a2 Q (Fits.out hf hO hA2) (hb0.trans hO.below) fun a1 h1 a1' w1 hp hf1 hb1 => hQ _ a1 h1 a1' w1 hp hf1 hb1
 · simp [show i < ops.size by omega]
 · simp [hil]
 have h1 := List.length_filter_le (fun i => !(fun _ => false : Nat → Bool) i) (List.range n)
 rw [List.length_range] at h1
 exact Nat.le_trans (Nat.add_le_add_right h1 _) (by omega)
theorem TS.drawT (T : List Entry) (hT : ∀ e ∈ T, PureSim P e.g e.args e.h e.v e.new) (hmix : P.follows .mixedOrders = true) (n : Nat) (us : List (Nat × Nat)) (a1 : CAct) (h1 : List Blk)
 (hq : QJ P T base c.rops us n 0 { act := a, heap := h } fun fin => fin.upds = us ∧ fin.act = a1 ∧ fin.heap = h1)
 (ht : TI P base L c.rops n a1 h1 (NX P base L K Φ .normal)) (hc : Code.isReg true c = true := by kernel_rfl)
 (hn : (edgesBack c.rops.toList 0 && quietOk c.rops.toList (Region.before c.rops).toList n && (tailFrom (Region.before c.rops).toList c.rops.size == n)) = true := by kernel_rfl) : TS P base L c a h (NX P base L K Φ) := by
 obtain ⟨id, hc⟩ := Code.isReg_spec hc
 obtain ⟨fin, hq, hu, ha, hh⟩ := hq
 rw [hc]
 exact TS.drawT0 T hT hmix n hn us hq hu (by rw [ha, hh]; exact ht)
theorem toF_pad (h : List Blk) (k : Nat) : toF (h ++ List.replicate k .dead) = toF h := by
 funext i
 unfold toF
 rw [List.getD_eq_getElem?_getD, List.getD_eq_getElem?_getD]
 by_cases c : i < h.length
 · rw [List.getElem?_append_left c]
 rw [List.getElem?_append_right (by omega), List.getElem?_eq_none (by omega : h.length ≤ i), List.getElem?_replicate]
 split <;> rfl
theorem Wk.pad (k : Nat) : Wk P base L a h a (h ++ List.replicate k .dead) := by
 rintro N D0 β0 κ0 a' w ⟨D, β, κ, hf⟩
 have hl : (h ++ List.replicate k Blk.dead).length = h.length + k := by simp
 exact ⟨D, β, κ, fun i hi => by have := hf.dom i hi; omega, by have := hf.bl; omega, by have := hf.ll; omega, by rw [toF_pad]; exact hf.rel, hf.act, hf.ext⟩
end
end Go.Cl
