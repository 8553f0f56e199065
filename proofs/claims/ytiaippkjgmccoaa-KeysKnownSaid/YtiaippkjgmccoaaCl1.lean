/- A clean interpreter: the model's code on a heap of abstract blocks, without a tape. Definitions alone. -/
import Derived.RangeFuncLeaves
import Derived.Below
namespace Go.Cl
open Go
noncomputable section

/-- What an operation that meets no memory comes to. -/
def pureRun {α : Type} (P : Program) : Sem α → Option α
  | .pure a => some a
  | .program k => pureRun P (k P)
  | .mark _ k => pureRun P k
  | _ => none

/-- A block of the clean heap. -/
inductive Blk where
  | dead
  | cells (t : TypeId) (vs : List Value)
  | map (kt : TypeId) (es : List (Value × Value))
  | loop (tmps : List Value) (params : List Tmp) (assign body : Code) (st : LoopState) (pend : Option Code)
  | mark
  /-- a map with its entries' stamps, and the clock -/
  | mapS (kt : TypeId) (arr : Array MapEntry) (clock : Nat)
  /-- an iterator over the map in block m -/
  | iter (m since : Nat) (seen : Array Nat) (last : Nat)
  deriving Inhabited

/-- The capacity of a slice that an append has made: nobody knows it: `UNK - q`, q: elements from the block's begin. -/
def UNK : Nat := 18446744073709551616
def INF : Nat := 9223372036854775808
/-- A slice that is only read: its capacity is not asked for (any number above UNK says so). -/
def ANY : Nat := 1208925819614629174706176

/-- Stands for whatever value. -/
def poison : Value := .chan (some 0)

def leafFlat : Value → Bool
  | .bool _ | .int _ _ | .float _ _ | .complex _ _ _ | .string _ | .nilFunc | .nilIface => true
  | .pointer none | .slice none 0 0 | .map none | .chan none => true
  | _ => false

def flat1 : Value → Bool
  | .agg cs => cs.toList.all leafFlat
  | v => leafFlat v

def isFlat : Value → Bool
  | .tuple vs => vs.toList.all flat1
  | v => flat1 v

/-- Is it a type of structs or arrays? -/
def aggT (P : Program) (t : TypeId) : Option Bool :=
  match P.underlying t with
  | some (.struct _) => some true
  | some (.array _ _) => some true
  | some _ => some false
  | none => none

def sizeT (P : Program) (t : TypeId) : Option Nat := (P.info? t).map (·.size)
def bytesT (P : Program) (t : TypeId) : Option Nat := (P.info? t).map (·.bytes)
def zeroT (P : Program) (t : TypeId) : Option Value := (P.info? t).bind (·.zero)

/-! ### Strict forms: each is its continuation at its argument; they keep the state written out while the kernel computes -/

def forceN {α : Type} (n : Nat) (k : Nat → α) : α :=
  match n with
  | 0 => k 0
  | m + 1 => k (Nat.succ m)
def forceI {α : Type} (n : Int) (k : Int → α) : α :=
  match n with
  | .ofNat m => forceN m fun m => k (.ofNat m)
  | .negSucc m => forceN m fun m => k (.negSucc m)
def forceLeaf {α : Type} (v : Value) (k : Value → α) : α :=
  match v with
  | .int q n => forceI n fun n => k (.int q n)
  | .bool true => k (.bool true)
  | .bool false => k (.bool false)
  | .pointer (some ⟨b, o, s⟩) => forceN b fun b => forceN o fun o => k (.pointer (some ⟨b, o, s⟩))
  | .slice (some ⟨b, o, s⟩) l c => forceN b fun b => forceN o fun o => forceN l fun l => forceN c fun c => k (.slice (some ⟨b, o, s⟩) l c)
  | .map (some r) => forceN r fun r => k (.map (some r))
  | v => k v
def forceList {α : Type} (f : Value → (Value → α) → α) (l : List Value) (k : List Value → α) : α :=
  List.rec (motive := fun _ => (List Value → α) → α) (fun k => k []) (fun v _ ih k => f v fun v => ih fun l => k (v :: l)) l k
def force1 {α : Type} (v : Value) (k : Value → α) : α :=
  match v with
  | .agg cs => forceList forceLeaf cs.toList fun l => k (.agg ⟨l⟩)
  | v => forceLeaf v k
def forceV {α : Type} (v : Value) (k : Value → α) : α :=
  match v with
  | .tuple vs => forceList force1 vs.toList fun l => k (.tuple ⟨l⟩)
  | .func fn f c => forceList force1 f.toList fun f => forceList force1 c.toList fun c => k (.func fn ⟨f⟩ ⟨c⟩)
  | v => force1 v k
def forcePairs {α : Type} : List (Value × Value) → (List (Value × Value) → α) → α
  | [], k => k []
  | (x, y) :: l, k => force1 x fun x => force1 y fun y => forcePairs l fun l => k ((x, y) :: l)
def forceB {α : Type} (b : Blk) (k : Blk → α) : α :=
  match b with
  | .cells t vs => forceList forceV vs fun vs => k (.cells t vs)
  | .map kt es => forcePairs es fun es => k (.map kt es)
  | b => k b
def forceBs {α : Type} (l : List Blk) (k : List Blk → α) : α :=
  List.rec (motive := fun _ => (List Blk → α) → α) (fun k => k []) (fun b _ ih k => forceB b fun b => ih fun l => k (b :: l)) l k
/-- l.set n v. -/
def setK {β α : Type} (l : List β) (n : Nat) (v : β) (k : List β → α) : α :=
  List.rec (motive := fun _ => Nat → (List β → α) → α) (fun _ k => k [])
    (fun x l ih n => Nat.rec (motive := fun _ => (List β → α) → α) (fun k => k (v :: l)) (fun m _ k => ih m fun l => k (x :: l)) n) l n k
/-- l ++ m. -/
def appK {β α : Type} (l m : List β) (k : List β → α) : α :=
  List.rec (motive := fun _ => (List β → α) → α) (fun k => k m) (fun x _ ih k => ih fun l => k (x :: l)) l k
def getT (l : List Value) (n : Nat) : Value :=
  List.rec (motive := fun _ => Nat → Value) (fun _ => undef) (fun x _ ih n => Nat.rec (motive := fun _ => Value) x (fun m _ => ih m) n) l n

/-- Is this no stand-in? -/
def okPart : Value → Bool
  | .chan (some _) => false
  | _ => true

/-- n cells of a block from o on. -/
def readCells (h : List Blk) (b : Option Addr) (n : Nat) : Option (List Value) :=
  if n = 0 then some [] else
  match b with
  | some ⟨i, o, none⟩ =>
    match h[i]? with
    | some (.cells _ vs) => if o + n ≤ vs.length then some ((vs.drop o).take n) else none
    | _ => none
  | _ => none

def cLoad (P : Program) (h : List Blk) (t : TypeId) (a : Value) : Option Value :=
  match a with
  | .pointer (some ⟨i, o, none⟩) =>
    match h[i]? with
    | some (.cells _ vs) =>
      match aggT P t, sizeT P t with
      | some true, some n => if o + n ≤ vs.length then some (.agg ⟨(vs.drop o).take n⟩) else none
      | some false, _ => vs[o]?
      | _, _ => none
    | _ => none
  | _ => none

def cInt : Value → Option Int
  | .int _ n => some n
  | _ => none

/-- What a quiet operation comes to: its value; the blocks that it makes; the one block that it writes. -/
structure QRes where
  val : Value
  new : List Blk := []
  upd : Option (Nat × Blk) := none
  deriving Inhabited

def cBuildSlice (P : Program) (n : Nat) (t : TypeId) (len : Nat) (parts : List (Nat × Value)) : Option QRes :=
  match P.underlying t with
  | some (.slice e) =>
    match sizeT P e with
    | none => none
    | some size =>
      if len * size > 2 ^ 24 ∨ size = 0 then none else
      match (if len * size = 0 then some #[] else (zeroT P e).map Value.cells) with
      | none => none
      | some zero =>
        if !zero.toList.all leafFlat || !parts.all (fun p => okPart p.2) then none else
        match Instr.fill (fun i => some (i * size, size)) ((Array.range (len * size)).map (zero[· % zero.size]!)) parts with
        | some cells => some { val := .slice (some ⟨n, 0, none⟩) len len, new := [.cells e cells.toList] }
        | none => none
  | _ => none

def cBuild (P : Program) (t : TypeId) (parts : List (Nat × Value)) : Option Value :=
  match zeroT P t with
  | none => none
  | some z =>
    if !flat1 z || !parts.all (fun p => okPart p.2) then none else
    match P.underlying t with
    | some (.struct fields) =>
      match fields.toList.mapM (fun f => (sizeT P f.type).map fun s => (f.offset, s)) with
      | none => none
      | some places =>
        match Instr.fill (places[·]?) z.cells parts with
        | some cells => some (.agg cells)
        | none => none
    | some (.array _ e) =>
      match sizeT P e with
      | none => none
      | some size =>
        match Instr.fill (fun i => some (i * size, size)) z.cells parts with
        | some cells => some (.agg cells)
        | none => none
    | _ => none

def cPart (P : Program) (t : TypeId) (cs : Array Value) (off : Nat) : Option Value :=
  match aggT P t, sizeT P t with
  | some true, some n => some (.agg ⟨(cs.toList.drop off).take n⟩)
  | some false, _ => cs.toList[off]?
  | _, _ => none

/-- The bounds of a slice expression over a length and a capacity that is known. -/
def cBounds (len cap : Nat) (lo hi mx : Option Value) : Option (Nat × Nat × Nat) :=
  match (match mx with | some v => (cInt v).bind fun x => if 0 ≤ x ∧ x ≤ cap then some x.toNat else none | none => some cap) with
  | none => none
  | some m =>
    match (match hi, mx with
      | some v, _ => (cInt v).bind fun x => if 0 ≤ x ∧ x ≤ m then some x.toNat else none
      | none, none => some len
      | none, some _ => none) with
    | none => none
    | some h =>
      match (match lo with | some v => (cInt v).bind fun x => if 0 ≤ x ∧ x ≤ h then some x.toNat else none | none => some 0) with
      | none => none
      | some l => some (l, h, m)

def cSlice (P : Program) (t : TypeId) (x : Value) (lo hi mx : Option Value) : Option Value :=
  match P.underlying t, x with
  | some (.slice e), .slice a len cap =>
    match sizeT P e with
    | none => none
    | some size =>
      if cap ≤ INF then
        match cBounds len cap lo hi mx with
        | some (l, h, m) => some (.slice (if m = l then a else a.map (·.add (l * size))) (h - l) (m - l))
        | none => none
      else
        match mx with
        | some _ =>
          match cBounds len len lo hi mx with
          | some (l, h, m) => some (.slice (if m = l then a else a.map (·.add (l * size))) (h - l) (m - l))
          | none => none
        | none =>
          match cBounds len len lo hi none with
          | some (l, h, _) => some (.slice (a.map (·.add (l * size))) (h - l) (if UNK < cap then cap else cap - l))
          | none => none
  | some (.array n e), .pointer (some a) =>
    match sizeT P e, cBounds n n lo hi mx with
    | some size, some (l, h, m) => if n ≤ INF then some (.slice (some (if m = l then a else a.add (l * size))) (h - l) (m - l)) else none
    | _, _ => none
  | _, _ => none

def cIndexAddr (P : Program) (t : TypeId) (x ix : Value) : Option Value :=
  match cInt ix with
  | none => none
  | some i =>
    match P.underlying t, x with
    | some (.slice e), .slice (some a) len _ =>
      match sizeT P e with
      | some size => if 0 ≤ i ∧ i < len then some (.pointer (some (a.add (i.toNat * size)))) else none
      | none => none
    | some (.array n e), .pointer (some a) =>
      match sizeT P e with
      | some size => if 0 ≤ i ∧ i < n then some (.pointer (some (a.add (i.toNat * size)))) else none
      | none => none
    | _, _ => none

def cFieldAddr (P : Program) (s : TypeId) (x : Value) (f : Nat) : Option Value :=
  match P.underlying s, x with
  | some (.struct fields), .pointer (some a) =>
    match fields[f]? with
    | some fd =>
      match sizeT P fd.type with
      | some n => if n = 0 then none else some (.pointer (some (a.add fd.offset)))
      | none => none
    | none => none
  | _, _ => none

def cField (P : Program) (t : TypeId) (x : Value) (f : Nat) : Option Value :=
  match P.underlying t, x with
  | some (.struct fields), .agg cs =>
    match fields[f]? with
    | some fd => cPart P fd.type cs fd.offset
    | none => none
  | _, _ => none

def cIndex (P : Program) (t : TypeId) (x ix : Value) : Option Value :=
  match cInt ix with
  | none => none
  | some i =>
    match P.underlying t, x with
    | some (.array n e), .agg cs =>
      match sizeT P e with
      | some size => if 0 ≤ i ∧ i < n then cPart P e cs (i.toNat * size) else none
      | none => none
    | some .string, .string b =>
      match b.data.toList[i.toNat]? with
      | some c => if 0 ≤ i then some (.int .u8 c.toNat) else none
      | none => none
    | _, _ => none

def isPlainKey : Option TypeDesc → Bool
  | some (.int _) | some .bool => true
  | _ => false

/-- Key types whose keys are compared cell by cell: integers, bools, structs of these. -/
def keyT (P : Program) (kt : TypeId) : Bool :=
  match P.underlying kt with
  | some (.struct fields) => !P.stoodInHeld kt && fields.toList.zipIdx.all fun (f, i) => f.name != "_" && f.offset == i && sizeT P f.type == some 1 && isPlainKey (P.underlying f.type)
  | d => isPlainKey d

def fitLeaf : Option TypeDesc → Value → Bool
  | some (.int q), .int q' _ => q == q'
  | some .bool, .bool _ => true
  | _, _ => false

def fitLeaves (P : Program) : List Field → List Value → Bool
  | [], [] => true
  | f :: fs, v :: vs => fitLeaf (P.underlying f.type) v && fitLeaves P fs vs
  | _, _ => false

/-- Is this a key of the type? -/
def keyFits (P : Program) (kt : TypeId) (k : Value) : Bool :=
  match P.underlying kt, k with
  | some (.struct fields), .agg cs => fitLeaves P fields.toList cs.toList
  | some (.struct _), _ => false
  | d, v => fitLeaf d v

def eqLeaf : Value → Value → Bool
  | .int _ a, .int _ b => a == b
  | .bool a, .bool b => a == b
  | _, _ => false

def eqLeaves : List Value → List Value → Bool
  | [], [] => true
  | a :: l, b :: m => eqLeaf a b && eqLeaves l m
  | _, _ => false

def eqKey : Value → Value → Bool
  | .agg a, .agg b => eqLeaves a.toList b.toList
  | a, b => eqLeaf a b

def findEntry (k : Value) : List (Value × Value) → Nat → Option (Nat × Value)
  | [], _ => none
  | (x, v) :: es, i => if eqKey k x then some (i, v) else findEntry k es (i + 1)

def cEntries (h : List Blk) (m : Value) : Option (List (Value × Value)) :=
  match m with
  | .map none => some []
  | .map (some r) =>
    match h[r]? with
    | some (.map _ es) => some es
    | _ => none
  | _ => none

def cLookup (P : Program) (h : List Blk) (t : TypeId) (m k : Value) (ok : Bool) : Option Value :=
  match P.underlying t, m with
  | some (.map kt et), .map (some r) =>
    match h[r]? with
    | some (.map kt' es) =>
      if kt' = kt ∧ keyT P kt = true ∧ keyFits P kt k = true then
        match findEntry k es 0 with
        | some (_, v) => some (if ok then .tuple #[v, .bool true] else v)
        | none =>
          match zeroT P et with
          | some z => if isFlat z then some (if ok then .tuple #[z, .bool false] else z) else none
          | none => none
      else none
    | _ => none
  | _, _ => none

/-- Can this value lie in a cell? -/
def cellOk : Value → Bool
  | .agg _ | .tuple _ | .chan (some _) => false
  | _ => true

/-- A store of cells into one block. -/
def cStoreAt (base : Nat) (h : List Blk) (a : Addr) (xs : List Value) : Option (Option (Nat × Blk)) :=
  if a.spot.isSome then none else
  if xs.isEmpty then some none else
  match h[a.block]? with
  | some (.cells t vs) =>
    if base ≤ a.block ∧ a.off + xs.length ≤ vs.length ∧ xs.all cellOk = true then some (some (a.block, .cells t (vs.take a.off ++ xs ++ vs.drop (a.off + xs.length)))) else none
  | _ => none

def cStore (P : Program) (base : Nat) (h : List Blk) (t : TypeId) (a x : Value) : Option QRes :=
  match a, sizeT P t with
  | .pointer (some a), some n =>
    if x.cells.size = n ∧ okPart x = true then (cStoreAt base h a x.cells.toList).map fun u => { val := undef, upd := u } else none
  | _, _ => none

/-- What is appended: so many elements, their cells. (A `make` that is appended at once comes as its number.) -/
def appArg (h : List Blk) (size bytes : Nat) (zero : Value) (d : Option TypeDesc) (x : Value) : Option (Nat × List Value) :=
  match d, x with
  | some (.slice _), .slice xb xn _ => (readCells h xb (xn * size)).map fun xs => (xn, xs)
  | some (.int _), .int _ l =>
    if 0 ≤ l ∧ l < INF ∧ l * bytes ≤ 2 ^ 48 then some (l.toNat, (List.replicate l.toNat zero.cells.toList).flatten) else none
  | _, _ => none

def appIn (base : Nat) (h : List Blk) (size : Nat) (sb : Option Addr) (sLen sCap need : Nat) (xs : List Value) : Option QRes :=
  match sb with
  | some a => (cStoreAt base h (a.add (sLen * size)) xs).map fun u => { val := .slice sb need sCap, upd := u }
  | none => none

def appCopy (h : List Blk) (n : Nat) (e : TypeId) (size : Nat) (sb : Option Addr) (sLen need : Nat) (xs : List Value) : Option QRes :=
  match readCells h sb (sLen * size) with
  | some old => some { val := .slice (some ⟨n, 0, none⟩) need UNK, new := [.cells e (old ++ xs)] }
  | none => none

def appOn (P : Program) (base : Nat) (h : List Blk) (n : Nat) (e : TypeId) (size : Nat) (sb : Option Addr) (sLen sCap need : Nat) (xs : List Value) : Option QRes :=
  match sb with
  | some ⟨k, o, none⟩ =>
    match h[k]? with
    | some (.cells t vs) =>
      if base ≤ k ∧ sizeT P t = some size ∧ o = (UNK - sCap) * size ∧ sCap ≤ UNK ∧ o + sLen * size ≤ vs.length ∧ xs.all cellOk = true then
        some { val := .slice (some ⟨n, 0, none⟩) need UNK, new := [.cells e ((vs.drop o).take (sLen * size) ++ xs)], upd := some (k, .dead) }
      else none
    | _ => none
  | _ => none

/-- `append`. -/
def cAppend (P : Program) (base : Nat) (h : List Blk) (n : Nat) (ts : Array TypeId) (s x : Value) : Option QRes :=
  match (ts[0]?).bind P.underlying, s with
  | some (.slice e), .slice sb sLen sCap =>
    match sizeT P e, bytesT P e, zeroT P e with
    | some size, some bytes, some zero =>
      if flat1 zero = true ∧ zero.cells.size = size ∧ 0 < size then
        match appArg h size bytes zero ((ts[1]?).bind P.underlying) x with
        | none => none
        | some (xn, xs) =>
          if xn = 0 then some { val := s } else
          if sCap ≤ INF ∧ sLen + xn ≤ sCap then appIn base h size sb sLen sCap (sLen + xn) xs else
          if (2 * (sLen + xn) + 1000) * (bytes + 1) > 2 ^ 48 then none else
          if sCap ≤ INF then appCopy h n e size sb sLen (sLen + xn) xs
          else appOn P base h n e size sb sLen sCap (sLen + xn) xs
      else none
    | _, _, _ => none
  | _, _ => none

def cMakeSlice (P : Program) (n : Nat) (t : TypeId) (l c : Value) : Option QRes :=
  match P.underlying t, cInt l, cInt c with
  | some (.slice e), some l, some c =>
    match sizeT P e, bytesT P e, zeroT P e with
    | some size, some bytes, some zero =>
      if !flat1 zero then none else
      if 0 ≤ l ∧ l ≤ c ∧ (bytes + 1) * c ≤ 2 ^ 48 ∧ c < INF ∧ zero.cells.size = size then
        some { val := .slice (some ⟨n, 0, none⟩) l.toNat c.toNat, new := [.cells e ((List.replicate c.toNat zero.cells.toList).flatten)] }
      else none
    | _, _, _ => none
  | _, _, _ => none

def cMapUpdate (P : Program) (base : Nat) (h : List Blk) (t : TypeId) (m k x : Value) : Option QRes :=
  match P.underlying t, m with
  | some (.map kt _), .map (some r) =>
    match h[r]? with
    | some (.map kt' es) =>
      if base ≤ r ∧ flat1 x = true ∧ kt' = kt ∧ keyT P kt = true ∧ keyFits P kt k = true then
        match findEntry k es 0 with
        | some (i, _) => some { val := undef, upd := some (r, .map kt (es.set i (k, x))) }
        | none => some { val := undef, upd := some (r, .map kt (es ++ [(k, x)])) }
      else none
    | _ => none
  | _, _ => none

def cDelete (P : Program) (base : Nat) (h : List Blk) (t : TypeId) (m k : Value) : Option QRes :=
  match P.underlying t, m with
  | some (.map kt _), .map (some r) =>
    match h[r]? with
    | some (.map kt' es) =>
      if base ≤ r ∧ kt' = kt ∧ keyT P kt = true ∧ keyFits P kt k = true then
        match findEntry k es 0 with
        | some (i, _) => some { val := .tuple #[], upd := some (r, .map kt (es.eraseIdx i)) }
        | none => some { val := .tuple #[], upd := some (r, .map kt es) }
      else none
    | _ => none
  | _, _ => none

/-- What the interpreter is told. -/
structure Env where
  P : Program
  /-- functions whose answers are known: the value, and the blocks that are made -/
  sum : FuncId → Option (List Value → List Blk → Option (Value × List Blk))
  /-- functions that write into what came in -/
  imp : FuncId → Bool
  /-- is the state kept written out? -/
  strict : Bool := false
  /-- functions that write into what came in, whose answers are known: the value, and the heap behind -/
  isum : FuncId → Option (List Value → Nat → List Blk → Option (Value × List Blk)) := fun _ => none

/-- The clean activation. -/
structure CAct where
  tmps : List Value
  marks : List Nat := []

def CAct.eval (a : CAct) : Operand → Value
  | .tmp t => getT a.tmps t
  | .const v => match isFlat v with | true => v | false => poison
  | .global _ => poison
  | .func f => .func (.func f) #[] #[]

/-- The interpreter with less fuel. -/
structure Rec where
  pcall : FuncId → List Value → List Blk → Option (Value × List Blk)
  icall : FuncId → List Value → Nat → List Blk → Option (Value × List Blk)
  code : Option Nat → Nat → Code → CAct → List Blk → Option (Exit × CAct × List Blk)

def Rec.none : Rec := ⟨fun _ _ _ => .none, fun _ _ _ _ => .none, fun _ _ _ _ _ => .none⟩

def callQ (E : Env) (r : Rec) (g : FuncId) (args : List Value) (h : List Blk) : Option (Value × List Blk) :=
  match (match E.sum g with | some s => s args h | none => none) with
  | some p => some p
  | none => if E.imp g then none else r.pcall g args h

def flatRun (P : Program) (vs : List Value) (s : Sem Value) : Option QRes :=
  if vs.all isFlat then
    match pureRun P s with
    | some v => if isFlat v then some { val := v } else none
    | none => none
  else none

def qv (v : Option Value) : Option QRes := v.map fun v => { val := v }

def qBuiltin (E : Env) (base : Nat) (h : List Blk) (n : Nat) (b : Builtin) (ts : Array TypeId) (ty : TypeId) (args : List Value) : Option QRes :=
  match b, args with
  | .append, [s, x] => cAppend E.P base h n ts s x
  | .len, [x] =>
    match (ts[0]?).bind E.P.underlying, x with
    | some (.slice _), .slice _ k _ => some { val := .int .i64 k }
    | some (.array k _), _ => some { val := .int .i64 k }
    | some (.map _ _), m => (cEntries h m).map fun es => { val := .int .i64 es.length }
    | some .string, .string s => some { val := .int .i64 s.size }
    | _, _ => none
  | .cap, [x] =>
    match (ts[0]?).bind E.P.underlying, x with
    | some (.slice _), .slice _ _ k => if k ≤ INF then some { val := .int .i64 k } else none
    | _, _ => none
  | .min, xs => flatRun E.P xs (Builtin.min_ ts ty xs.toArray)
  | .max, xs => flatRun E.P xs (Builtin.max_ ts ty xs.toArray)
  | .delete, [m, k] => (ts[0]?).bind fun t => cDelete E.P base h t m k
  | .clear, [.map (some m)] =>
    match (ts[0]?).bind E.P.underlying, h[m]? with
    | some _, some (.map kt _) => if base ≤ m then some { val := .tuple #[], upd := some (m, .map kt []) } else none
    | _, _ => none
  | .copy, [.slice (some a) dn _, .slice xb xn _] =>
    match (ts[0]?).bind E.P.underlying with
    | some (.slice e) =>
      match sizeT E.P e with
      | some size =>
        match readCells h xb (min xn dn * size) with
        | some xs => (cStoreAt base h a xs).map fun u => { val := .int .i64 (min xn dn : Nat), upd := u }
        | none => none
      | none => none
    | _ => none
  | _, _ => none

def qPick (c a b : Value) : Option QRes :=
  match c with
  | .bool t => some { val := if t then a else b }
  | _ => none

def qAlloc (P : Program) (n : Nat) (t : TypeId) : Option QRes :=
  match zeroT P t with
  | some z => if flat1 z then some { val := .pointer (some ⟨n, 0, none⟩), new := [.cells t z.cells.toList] } else none
  | none => none

def qBox (n : Nat) (t : TypeId) (v : Value) : Option QRes :=
  if okPart v then some { val := .pointer (some ⟨n, 0, none⟩), new := [.cells t v.cells.toList] } else none

def qNilCheck (v : Value) : Option QRes :=
  match v with
  | .pointer (some a) => some { val := .pointer (some a) }
  | .func (.func g) f c => some { val := .func (.func g) f c }
  | _ => none

def intBin (op : BinOp) (k k' : IntKind) (a b : Int) : Option Value :=
  if k ≠ k' then none else
  match op with
  | .add => some (.int k (k.wrap (a + b)))
  | .sub => some (.int k (k.wrap (a - b)))
  | .mul => some (.int k (k.wrap (a * b)))
  | .quo => if b = 0 then none else some (.int k (k.wrap (a.tdiv b)))
  | .rem => if b = 0 then none else some (.int k (a.tmod b))
  | .eql => some (.bool (a == b))
  | .neq => some (.bool (a != b))
  | .lss => some (.bool (a < b))
  | .leq => some (.bool (a ≤ b))
  | .gtr => some (.bool (a > b))
  | .geq => some (.bool (a ≥ b))
  | _ => none

def cmpKeys (P : Program) (op : BinOp) (t : TypeId) (a b : Value) : Option Value :=
  if keyT P t = true ∧ keyFits P t a = true ∧ keyFits P t b = true then
    match op with
    | .eql => some (.bool (eqKey a b))
    | .neq => some (.bool (!eqKey a b))
    | _ => none
  else none

def qBin (P : Program) (op : BinOp) (t : TypeId) (x y : Operand) (vx vy : Value) : Option QRes :=
  match vx, vy with
  | .int k a, .int k' b =>
    match intBin op k k' a b with
    | some v => some { val := v }
    | none => flatRun P [vx, vy] (do eqGuard op t x y vx vy; binOp op t vx vy)
  | .bool a, .bool b =>
    match op with
    | .eql | .neq => qv (cmpKeys P op t (.bool a) (.bool b))
    | _ => none
  | .agg a, .agg b =>
    match cmpKeys P op t (.agg a) (.agg b) with
    | some v => some { val := v }
    | none => flatRun P [vx, vy] (do eqGuard op t x y vx vy; binOp op t vx vy)
  | .slice (some _) l _, .slice none _ _ =>
    if 0 < l then
      match op, P.underlying t with
      | .eql, some (.slice _) => some { val := .bool false }
      | .neq, some (.slice _) => some { val := .bool true }
      | _, _ => none
    else none
  | vx, vy => flatRun P [vx, vy] (do eqGuard op t x y vx vy; binOp op t vx vy)

def qUn (P : Program) (op : UnOp) (v : Value) : Option QRes :=
  match op, v with
  | .not, .bool b => some { val := .bool !b }
  | .neg, .int k n => some { val := .int k (k.wrap (0 - n)) }
  | op, v => flatRun P [v] (Op.unary op v)

def qConvert (P : Program) (s d : TypeId) (v : Value) : Option QRes := flatRun P [v] (convert s d v)

def qMakeMap (P : Program) (n : Nat) (t : TypeId) : Option QRes :=
  match P.underlying t with
  | some (.map kt _) => some { val := .map (some n), new := [.map kt []] }
  | _ => none

def qExtract (v : Value) (ix : Nat) : Option QRes :=
  match v with
  | .tuple vs => qv (vs.toList[ix]?)
  | _ => none

def qCall (E : Env) (r : Rec) (h : List Blk) (f : Value) (args : List Value) : Option QRes :=
  match f with
  | .func (.func g) first captured => (callQ E r g (first.toList ++ args ++ captured.toList) h).map fun p => { val := p.1, new := p.2 }
  | _ => none

def partsOf (ρ : Operand → Value) (parts : Array (Nat × Operand)) : List (Nat × Value) := parts.toList.map fun p => (p.1, ρ p.2)

/-- A quiet operation: it reads, makes blocks (n is the number of the first one), and writes one block at most. -/
def qOp (E : Env) (r : Rec) (base : Nat) (h : List Blk) (n : Nat) (ρ : Operand → Value) (o : Oper) : Option QRes :=
  match o.op with
  | .move x => some { val := ρ x }
  | .assign x => some { val := ρ x }
  | .pick c a b => qPick (ρ c) (ρ a) (ρ b)
  | .alloc t => qAlloc E.P n t
  | .box t x => qBox n t (ρ x)
  | .build t parts => qv (cBuild E.P t (partsOf ρ parts))
  | .buildSlice t len parts => cBuildSlice E.P n t len (partsOf ρ parts)
  | .load t a => qv (cLoad E.P h t (ρ a))
  | .store t a x => cStore E.P base h t (ρ a) (ρ x)
  | .nilCheck x => qNilCheck (ρ x)
  | .binOp op t x y _ => qBin E.P op t x y (ρ x) (ρ y)
  | .unOp op _ x => qUn E.P op (ρ x)
  | .convert s d x => qConvert E.P s d (ρ x)
  | .makeFunc (.func g) first captured => some { val := .func (.func g) ⟨first.toList.map ρ⟩ ⟨captured.toList.map ρ⟩ }
  | .makeMap t none => qMakeMap E.P n t
  | .makeSlice t l c => cMakeSlice E.P n t (ρ l) (ρ c)
  | .slice t x lo hi mx => qv (cSlice E.P t (ρ x) (lo.map ρ) (hi.map ρ) (mx.map ρ))
  | .fieldAddr s x f => qv (cFieldAddr E.P s (ρ x) f)
  | .field t x f => qv (cField E.P t (ρ x) f)
  | .indexAddr t x ix => qv (cIndexAddr E.P t (ρ x) (ρ ix))
  | .index t x ix => qv (cIndex E.P t (ρ x) (ρ ix))
  | .lookup t m k ok => qv (cLookup E.P h t (ρ m) (ρ k) ok)
  | .mapUpdate t m k x => cMapUpdate E.P base h t (ρ m) (ρ k) (ρ x)
  | .insert t m k x => cMapUpdate E.P base h t (ρ m) (ρ k) (ρ x)
  | .extract t ix => qExtract (ρ t) ix
  | .call ⟨.value f, args, _⟩ => qCall E r h (ρ f) (args.toList.map ρ)
  | .call ⟨.builtin b, args, ts⟩ => qBuiltin E base h n b ts o.type (args.toList.map ρ)
  | _ => none

/-- A round of a loop over a function: what its end says. -/
def endRound (h : List Blk) (l : Nat) (e : Exit) : Option (Value × List Blk) :=
  match h[l]? with
  | some (.loop t p a b .busy none) =>
    match e with
    | .normal => some (.bool true, h.set l (.loop t p a b .ready none))
    | .exit id => some (.bool false, h.set l (.loop t p a b .done (some (.exit id))))
    | .ret => some (.bool false, h.set l (.loop t p a b .done (some .ret)))
    | _ => none
  | _ => none

def setAll : List Tmp → List Value → List Value → List Value
  | t :: ts, v :: vs, l => setAll ts vs (l.set t v)
  | _, _, l => l

/-- The round itself, behind the assignments to the loop's left sides. -/
def cRound (r : Rec) (base l : Nat) (body : Code) (a : CAct) (h : List Blk) : Option (Value × List Blk) :=
  match h[l]? with
  | some (.loop t p as b .ready none) =>
    match r.code (some l) base body a (h.set l (.loop t p as b .busy none)) with
    | some (e, _, h2) => endRound h2 l e
    | none => none
  | _ => none

def cYield (r : Rec) (base : Nat) (h : List Blk) (l : Nat) (args : List Value) : Option (Value × List Blk) :=
  match h[l]? with
  | some (.loop tmps params assign body .ready none) =>
    if base ≤ l ∧ args.length = params.length then
      match r.code (some l) base assign { tmps := setAll params args tmps } h with
      | some (.normal, a1, h1) => cRound r base l body a1 h1
      | _ => none
    else none
  | _ => none

/-- A call that may write: of a closure, or of a round of a loop over a function. -/
def iCall (E : Env) (r : Rec) (base : Nat) (h : List Blk) (f : Value) (args : List Value) : Option (Value × List Blk) :=
  match f with
  | .func (.func g) first captured =>
    if (E.sum g).isNone && E.imp g then r.icall g (first.toList ++ args ++ captured.toList) base h else none
  | .func (.yield l) first captured => if first.size = 0 ∧ captured.size = 0 then cYield r base h l args else none
  | _ => none

def iOp (E : Env) (r : Rec) (base : Nat) (h : List Blk) (ρ : Operand → Value) (o : Oper) : Option (Value × List Blk) :=
  match o.op with
  | .call ⟨.value f, args, _⟩ => iCall E r base h (ρ f) (args.toList.map ρ)
  | _ => none

def isImp (E : Env) : Value → Bool
  | .func (.func g) _ _ => (E.sum g).isNone && E.imp g
  | .func (.yield _) _ _ => true
  | _ => false

def isImpCall (E : Env) (ρ : Operand → Value) (o : Oper) : Bool :=
  match o.op with
  | .call ⟨.value f, _, _⟩ => isImp E (ρ f)
  | _ => false

/-- The state behind a quiet operation. -/
def applyK {α : Type} (E : Env) (h : List Blk) (q : QRes) (k : Value → List Blk → α) : α :=
  if E.strict then
    forceV q.val fun v =>
      match q.upd with
      | none => forceBs q.new fun new => appK h new fun h => k v h
      | some (i, b) => forceB b fun b => setK h i b fun h => forceBs q.new fun new => appK h new fun h => k v h
  else k q.val ((match q.upd with | some (i, b) => h.set i b | none => h) ++ q.new)

def putK {α : Type} (E : Env) (a : CAct) (dst : Option Tmp) (v : Value) (k : CAct → α) : α :=
  match dst with
  | none => k a
  | some d => if E.strict then setK a.tmps d v fun l => k { a with tmps := l } else k { a with tmps := a.tmps.set d v }

def cWanted (ops : List Oper) (a : CAct) (o : Oper) : Option Bool :=
  match o.guard with
  | none => some true
  | some (j, want) =>
    match (ops[j]?).bind (·.dst) with
    | some d =>
      match getT a.tmps d with
      | .bool b => some (b == want)
      | .chan (some _) => none
      | _ => some false
    | none => some false

/-- The operations of a region one after the other. -/
def seqOps (E : Env) (r : Rec) (base : Nat) (ops : List Oper) : List Oper → CAct → List Blk → Option (CAct × List Blk)
  | [], a, h => some (a, h)
  | o :: rest, a, h =>
    match cWanted ops a o with
    | some true =>
      if isImpCall E a.eval o then
        match iOp E r base h a.eval o with
        | some (v, h') => putK E a o.dst v fun a => seqOps E r base ops rest a h'
        | none => none
      else
        match qOp E r base h h.length a.eval o with
        | some q => applyK E h q fun v h' => putK E a o.dst v fun a => seqOps E r base ops rest a h'
        | none => none
    | some false => putK E a o.dst undef fun a => seqOps E r base ops rest a h
    | none => none

/-! A region that draws its order: a first part of quiet operations, in whatever order; then a tail that is ordered. -/

/-- From where on each operation stands behind all before it. -/
def tailFrom (bf : List Nat) : Nat → Nat
  | 0 => 0
  | j + 1 => if (List.range j).all fun i => (bf.getD j 0).testBit i then tailFrom bf j else j + 1

structure QSt where
  act : CAct
  heap : List Blk
  /-- which operation has made which blocks -/
  own : List (Nat × Nat × Nat) := []
  /-- which operation has written which block -/
  upds : List (Nat × Nat) := []

def hidden (bf : List Nat) (own : List (Nat × Nat × Nat)) (upds : List (Nat × Nat)) (j id : Nat) : Bool :=
  own.any (fun (i, f, t) => decide (f ≤ id) && decide (id < t) && !(bf.getD j 0).testBit i) ||
  upds.any (fun (i, k) => k == id && !(i == j) && !(bf.getD i 0).testBit j && !(bf.getD j 0).testBit i)

def masked (bf : List Nat) (own : List (Nat × Nat × Nat)) (upds : List (Nat × Nat)) (j : Nat) (h : List Blk) : List Blk :=
  if own.isEmpty && upds.isEmpty then h else h.zipIdx.map fun (b, id) => if hidden bf own upds j id then .dead else b

/-- The first part, in the text's order; `us`: what is written in it, by whom. -/
def quietOps (E : Env) (r : Rec) (base : Nat) (ops : List Oper) (bf : List Nat) (us : List (Nat × Nat)) : List Oper → Nat → QSt → Option QSt
  | [], _, s => some s
  | o :: rest, j, s =>
    match cWanted ops s.act o with
    | some true =>
      match qOp E r base (masked bf s.own us j s.heap) s.heap.length s.act.eval o with
      | some q =>
        applyK E s.heap q fun v h' => putK E s.act o.dst v fun a =>
          quietOps E r base ops bf us rest (j + 1)
            { act := a, heap := h',
              own := if q.new.isEmpty then s.own else (j, s.heap.length, s.heap.length + q.new.length) :: s.own,
              upds := match q.upd with | some (k, _) => (j, k) :: s.upds | none => s.upds }
      | none => none
    | some false => putK E s.act o.dst undef fun a => quietOps E r base ops bf us rest (j + 1) { s with act := a }
    | none => none

/-- The temporaries that an operation looks at. -/
def opNames (ops : List Oper) (o : Oper) : List Tmp :=
  (match o.guard with | some (j, _) => ((ops[j]?).bind (·.dst)).toList | none => []) ++ o.op.operands.toList.filterMap fun | .tmp t => some t | _ => none

/-- Every edge that binds leads back. -/
def edgesBack : List Oper → Nat → Bool
  | [], _ => true
  | o :: rest, j => o.after.toList.all (fun e => !Region.binds .any e || decide (e.on < j)) && edgesBack rest (j + 1)

/-- Two operations of the first part that are not ordered do not meet in a temporary. -/
def quietOk (ops : List Oper) (bf : List Nat) (s : Nat) : Bool :=
  (List.range s).all fun j =>
    match ops[j]? with
    | none => false
    | some oj =>
      (List.range s).all fun i =>
        match ops[i]? with
        | none => false
        | some oi => i == j || (bf.getD j 0).testBit i || (bf.getD i 0).testBit j ||
          (match oi.dst with | none => true | some d => !(oj.dst == some d) && !(opNames ops oj).contains d)

def drawOps (E : Env) (r : Rec) (base : Nat) (ops : List Oper) (bf : List Nat) (s : Nat) (a : CAct) (h : List Blk) : Option (CAct × List Blk) :=
  match quietOps E r base ops bf [] (ops.take s) 0 { act := a, heap := h } with
  | none => none
  | some q =>
    match (if q.upds.isEmpty then some q else (quietOps E r base ops bf q.upds (ops.take s) 0 { act := a, heap := h }).bind fun q' => if q'.upds == q.upds then some q' else none) with
    | none => none
    | some q => seqOps E r base ops (ops.drop s) q.act q.heap

def cResults (P : Program) (fn : Func) (a : CAct) (h : List Blk) : Option Value :=
  match fn.results.toList.mapM (fun | .tmp t => some (getT a.tmps t) | .cell x t => cLoad P h t (getT a.tmps x)) with
  | some [v] => some v
  | some vs => some (.tuple ⟨vs⟩)
  | none => none

/-- The blocks from n on to which a value leads at once. -/
def refsLeaf (n : Nat) : Value → List Nat
  | .pointer (some a) | .slice (some a) _ _ => if n ≤ a.block then [a.block] else []
  | .map (some r) => if n ≤ r then [r] else []
  | _ => []
def refs1 (n : Nat) : Value → List Nat
  | .agg cs => cs.toList.flatMap (refsLeaf n)
  | v => refsLeaf n v
def refs (n : Nat) : Value → List Nat
  | .tuple vs => vs.toList.flatMap (refs1 n)
  | v => refs1 n v

/-- Is this a value whose blocks can be told by `refs`? -/
def plainLeaf : Value → Bool
  | .func _ _ _ | .iface _ _ | .agg _ | .tuple _ | .chan (some _) => false
  | _ => true
def plain1 : Value → Bool
  | .agg cs => cs.toList.all plainLeaf
  | v => plainLeaf v
def plainV : Value → Bool
  | .tuple vs => vs.toList.all plain1
  | v => plain1 v

def renLeaf (f : Nat → Nat) : Value → Value
  | .pointer (some a) => .pointer (some { a with block := f a.block })
  | .slice (some a) l c => .slice (some { a with block := f a.block }) l c
  | .map (some r) => .map (some (f r))
  | v => v
def ren1 (f : Nat → Nat) : Value → Value
  | .agg cs => .agg ⟨cs.toList.map (renLeaf f)⟩
  | v => renLeaf f v
def renV (f : Nat → Nat) : Value → Value
  | .tuple vs => .tuple ⟨vs.toList.map (ren1 f)⟩
  | v => ren1 f v

def blkFlat : Blk → Bool
  | .cells _ vs => vs.all isFlat
  | .map _ _ => true
  | _ => false

/-- Behind a call that wrote nothing: of the blocks from n on only what the value leads to is kept, in the value's order. -/
def tidy (n : Nat) (v : Value) (h : List Blk) : Value × List Blk :=
  if isFlat v then (v, []) else
  let ids := (refs n v).eraseDups
  if plainV v && ids.all (fun i => match h[i]? with | some b => blkFlat b | none => false) then
    (renV (fun i => if i < n then i else n + ids.idxOf i) v, ids.map fun i => h.getD i .dead)
  else (v, h.drop n)

/-- The blocks for rounds' deferred calls are shut where the function is left. -/
def shutMarks (base : Nat) : List Nat → List Blk → Option (List Blk)
  | [], h => some h
  | m :: ms, h =>
    match h[m]? with
    | some .mark => if base ≤ m then shutMarks base ms (h.set m .dead) else none
    | _ => none

def runBody (E : Env) (r : Rec) (base : Nat) (g : FuncId) (args : List Value) (h : List Blk) : Option (Value × List Blk) :=
  match E.P.funcs[g]? with
  | some fn =>
    match fn.body with
    | some c =>
      if fn.name == "runtime.NumGoroutine" then none else
      match (if E.strict then forceList forceV args fun args => appK args (List.replicate (fn.ntmps - args.length) undef) fun l => r.code none base c { tmps := l } h
        else r.code none base c { tmps := args ++ List.replicate (fn.ntmps - args.length) undef } h) with
      | some (.normal, a, h') | some (.ret, a, h') =>
        match shutMarks base a.marks h' with
        | some h2 => (cResults E.P fn a h2).map fun v => (v, h2)
        | none => none
      | _ => none
    | none => none
  | none => none

def codeDraw (E : Env) (r : Rec) (base : Nat) (ops : Array Oper) (a : CAct) (h : List Blk) : Option (Exit × CAct × List Blk) :=
  if edgesBack ops.toList 0 && quietOk ops.toList (Region.before ops).toList (tailFrom (Region.before ops).toList ops.size) then
    (drawOps E r base ops.toList (Region.before ops).toList (tailFrom (Region.before ops).toList ops.size) a h).map fun p => (.normal, p.1, p.2)
  else none

def codeSeq (r : Rec) (ro : Option Nat) (base : Nat) (y : Code) (x : Option (Exit × CAct × List Blk)) : Option (Exit × CAct × List Blk) :=
  match x with
  | some (.normal, a, h) => r.code ro base y a h
  | x => x

def codeCond (r : Rec) (ro : Option Nat) (base : Nat) (x y : Code) (a : CAct) (h : List Blk) (v : Value) : Option (Exit × CAct × List Blk) :=
  match v with
  | .bool true => r.code ro base x a h
  | .bool false => r.code ro base y a h
  | _ => none

def codeBlock (id : Nat) (x : Option (Exit × CAct × List Blk)) : Option (Exit × CAct × List Blk) :=
  match x with
  | some (.exit i, a, h) => some (if i = id then .normal else .exit i, a, h)
  | x => x

/-- Where a loop over a function begins: an outermost one lays a block for the rounds' deferred calls. -/
def rangeMark (base : Nat) (ro : Option Nat) (a : CAct) (h : List Blk) : Option (CAct × List Blk) :=
  match ro with
  | none => some ({ a with marks := h.length :: a.marks }, h ++ [Blk.mark])
  | some l0 => match h[l0]? with | some (.loop ..) => if base ≤ l0 then some (a, h) else none | _ => none

def codeRange (E : Env) (r : Rec) (ro : Option Nat) (base : Nat) (params : Array Tmp) (assign body : Code) (a : CAct) (h : List Blk) (v : Value) : Option (Exit × CAct × List Blk) :=
  match v with
  | .func (.func f) first captured =>
    match rangeMark base ro a h with
    | some (a', h1) =>
      if (E.sum f).isNone && E.imp f then
        match r.icall f (first.toList ++ [Value.func (.yield h1.length) #[] #[]] ++ captured.toList) base (h1 ++ [Blk.loop a.tmps params.toList assign body .ready none]) with
        | some (_, h2) =>
          match h2[h1.length]? with
          | some (.loop _ _ _ _ .ready none) => some (.normal, a', h2.set h1.length .dead)
          | some (.loop _ _ _ _ .done (some c)) => r.code ro base c a' (h2.set h1.length .dead)
          | _ => none
        | none => none
      else none
    | none => none
  | _ => none

def codeScope (x : Option (Exit × CAct × List Blk)) : Option (Exit × CAct × List Blk) :=
  match x with
  | some (.goto _, _, _) => none
  | x => x

def stepCode (E : Env) (r : Rec) (ro : Option Nat) (base : Nat) (c : Code) (a : CAct) (h : List Blk) : Option (Exit × CAct × List Blk) :=
  match c with
  | .skip => some (.normal, a, h)
  | .region _ ops false => (seqOps E r base ops.toList ops.toList a h).map fun p => (.normal, p.1, p.2)
  | .region _ ops true => codeDraw E r base ops a h
  | .seq x y => codeSeq r ro base y (r.code ro base x a h)
  | .cond c x y => codeCond r ro base x y a h (a.eval c)
  | .block id c => codeBlock id (r.code ro base c a h)
  | .loop c => codeSeq r ro base (.loop c) (r.code ro base c a h)
  | .scope c => codeScope (r.code ro base c a h)
  | .label _ => some (.normal, a, h)
  | .exit id => some (.exit id, a, h)
  | .ret => some (.ret, a, h)
  | .rangeFunc g params assign body => codeRange E r ro base params assign body a h (a.eval g)
  | _ => none

/-- One more layer of fuel. -/
def layer (E : Env) (r : Rec) : Rec :=
    { pcall := fun g args h => (runBody E r h.length g args h).map fun (v, h') => tidy h.length v h'
      icall := fun g args base h => match (match E.isum g with | some s => s args base h | none => none) with | some p => some p | none => runBody E r base g args h
      code := stepCode E r }

def run (E : Env) (n : Nat) : Rec := Nat.rec Rec.none (fun _ r => layer E r) n

end
end Go.Cl
