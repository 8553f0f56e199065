/- The framework, Cl1 to Cl9. -/
import Derived.RangeFuncLeaves
import Derived.Below
import Derived.Laws.World
import Derived.Laws.Cells
import Derived.Laws.CopyRow
import Derived.ChangeKeysEq
import Derived.Laws.CopyOwn
import Derived.Laws.Rows
/- A clean interpreter: the model's code on a heap of abstract blocks, without a tape. Definitions alone. -/
namespace Go.Cl
open Go
noncomputable section

/-- What an operation that meets no memory comes to. -/
def pureRun {α : Type} (P : Program) : Sem α → Option α
  | .pure a => some a
  | .program k => pureRun P (k P)
  | .mark _ k => pureRun P k
  | _ => none

/-- A block of the clean heap. -/
inductive Blk where
  | dead
  | cells (t : TypeId) (vs : List Value)
  | map (kt : TypeId) (es : List (Value × Value))
  | loop (tmps : List Value) (params : List Tmp) (assign body : Code) (st : LoopState) (pend : Option Code)
  | mark
  /-- a map with its entries' stamps, and the clock -/
  | mapS (kt : TypeId) (arr : Array MapEntry) (clock : Nat)
  /-- an iterator over the map in block m -/
  | iter (m since : Nat) (seen : Array Nat) (last : Nat)
  deriving Inhabited

/-- The capacity of a slice that an append has made: nobody knows it: `UNK - q`, q: elements from the block's begin. -/
def UNK : Nat := 18446744073709551616
def INF : Nat := 9223372036854775808
/-- A slice that is only read: its capacity is not asked for (any number above UNK says so). -/
def ANY : Nat := 1208925819614629174706176

/-- Stands for whatever value. -/
def poison : Value := .chan (some 0)

def leafFlat : Value → Bool
  | .bool _ | .int _ _ | .float _ _ | .complex _ _ _ | .string _ | .nilFunc | .nilIface => true
  | .pointer none | .slice none 0 0 | .map none | .chan none => true
  | _ => false

def flat1 : Value → Bool
  | .agg cs => cs.toList.all leafFlat
  | v => leafFlat v

def isFlat : Value → Bool
  | .tuple vs => vs.toList.all flat1
  | v => flat1 v

/-- Is it a type of structs or arrays? -/
def aggT (P : Program) (t : TypeId) : Option Bool :=
  match P.underlying t with
  | some (.struct _) => some true
  | some (.array _ _) => some true
  | some _ => some false
  | none => none

def sizeT (P : Program) (t : TypeId) : Option Nat := (P.info? t).map (·.size)
def bytesT (P : Program) (t : TypeId) : Option Nat := (P.info? t).map (·.bytes)
def zeroT (P : Program) (t : TypeId) : Option Value := (P.info? t).bind (·.zero)

/-! ### Strict forms: each is its continuation at its argument; they keep the state written out while the kernel computes -/

def forceN {α : Type} (n : Nat) (k : Nat → α) : α :=
  match n with
  | 0 => k 0
  | m + 1 => k (Nat.succ m)
def forceI {α : Type} (n : Int) (k : Int → α) : α :=
  match n with
  | .ofNat m => forceN m fun m => k (.ofNat m)
  | .negSucc m => forceN m fun m => k (.negSucc m)
def forceLeaf {α : Type} (v : Value) (k : Value → α) : α :=
  match v with
  | .int q n => forceI n fun n => k (.int q n)
  | .bool true => k (.bool true)
  | .bool false => k (.bool false)
  | .pointer (some ⟨b, o, s⟩) => forceN b fun b => forceN o fun o => k (.pointer (some ⟨b, o, s⟩))
  | .slice (some ⟨b, o, s⟩) l c => forceN b fun b => forceN o fun o => forceN l fun l => forceN c fun c => k (.slice (some ⟨b, o, s⟩) l c)
  | .map (some r) => forceN r fun r => k (.map (some r))
  | v => k v
def forceList {α : Type} (f : Value → (Value → α) → α) (l : List Value) (k : List Value → α) : α :=
  List.rec (motive := fun _ => (List Value → α) → α) (fun k => k []) (fun v _ ih k => f v fun v => ih fun l => k (v :: l)) l k
def force1 {α : Type} (v : Value) (k : Value → α) : α :=
  match v with
  | .agg cs => forceList forceLeaf cs.toList fun l => k (.agg ⟨l⟩)
  | v => forceLeaf v k
def forceV {α : Type} (v : Value) (k : Value → α) : α :=
  match v with
  | .tuple vs => forceList force1 vs.toList fun l => k (.tuple ⟨l⟩)
  | .func fn f c => forceList force1 f.toList fun f => forceList force1 c.toList fun c => k (.func fn ⟨f⟩ ⟨c⟩)
  | v => force1 v k
def forcePairs {α : Type} : List (Value × Value) → (List (Value × Value) → α) → α
  | [], k => k []
  | (x, y) :: l, k => force1 x fun x => force1 y fun y => forcePairs l fun l => k ((x, y) :: l)
def forceB {α : Type} (b : Blk) (k : Blk → α) : α :=
  match b with
  | .cells t vs => forceList forceV vs fun vs => k (.cells t vs)
  | .map kt es => forcePairs es fun es => k (.map kt es)
  | b => k b
def forceBs {α : Type} (l : List Blk) (k : List Blk → α) : α :=
  List.rec (motive := fun _ => (List Blk → α) → α) (fun k => k []) (fun b _ ih k => forceB b fun b => ih fun l => k (b :: l)) l k
/-- l.set n v. -/
def setK {β α : Type} (l : List β) (n : Nat) (v : β) (k : List β → α) : α :=
  List.rec (motive := fun _ => Nat → (List β → α) → α) (fun _ k => k [])
    (fun x l ih n => Nat.rec (motive := fun _ => (List β → α) → α) (fun k => k (v :: l)) (fun m _ k => ih m fun l => k (x :: l)) n) l n k
/-- l ++ m. -/
def appK {β α : Type} (l m : List β) (k : List β → α) : α :=
  List.rec (motive := fun _ => (List β → α) → α) (fun k => k m) (fun x _ ih k => ih fun l => k (x :: l)) l k
def getT (l : List Value) (n : Nat) : Value :=
  List.rec (motive := fun _ => Nat → Value) (fun _ => undef) (fun x _ ih n => Nat.rec (motive := fun _ => Value) x (fun m _ => ih m) n) l n

/-- Is this no stand-in? -/
def okPart : Value → Bool
  | .chan (some _) => false
  | _ => true

/-- n cells of a block from o on. -/
def readCells (h : List Blk) (b : Option Addr) (n : Nat) : Option (List Value) :=
  if n = 0 then some [] else
  match b with
  | some ⟨i, o, none⟩ =>
    match h[i]? with
    | some (.cells _ vs) => if o + n ≤ vs.length then some ((vs.drop o).take n) else none
    | _ => none
  | _ => none

def cLoad (P : Program) (h : List Blk) (t : TypeId) (a : Value) : Option Value :=
  match a with
  | .pointer (some ⟨i, o, none⟩) =>
    match h[i]? with
    | some (.cells _ vs) =>
      match aggT P t, sizeT P t with
      | some true, some n => if o + n ≤ vs.length then some (.agg ⟨(vs.drop o).take n⟩) else none
      | some false, _ => vs[o]?
      | _, _ => none
    | _ => none
  | _ => none

def cInt : Value → Option Int
  | .int _ n => some n
  | _ => none

/-- What a quiet operation comes to: its value; the blocks that it makes; the one block that it writes. -/
structure QRes where
  val : Value
  new : List Blk := []
  upd : Option (Nat × Blk) := none
  deriving Inhabited

def cBuildSlice (P : Program) (n : Nat) (t : TypeId) (len : Nat) (parts : List (Nat × Value)) : Option QRes :=
  match P.underlying t with
  | some (.slice e) =>
    match sizeT P e with
    | none => none
    | some size =>
      if len * size > 2 ^ 24 ∨ size = 0 then none else
      match (if len * size = 0 then some #[] else (zeroT P e).map Value.cells) with
      | none => none
      | some zero =>
        if !zero.toList.all leafFlat || !parts.all (fun p => okPart p.2) then none else
        match Instr.fill (fun i => some (i * size, size)) ((Array.range (len * size)).map (zero[· % zero.size]!)) parts with
        | some cells => some { val := .slice (some ⟨n, 0, none⟩) len len, new := [.cells e cells.toList] }
        | none => none
  | _ => none

def cBuild (P : Program) (t : TypeId) (parts : List (Nat × Value)) : Option Value :=
  match zeroT P t with
  | none => none
  | some z =>
    if !flat1 z || !parts.all (fun p => okPart p.2) then none else
    match P.underlying t with
    | some (.struct fields) =>
      match fields.toList.mapM (fun f => (sizeT P f.type).map fun s => (f.offset, s)) with
      | none => none
      | some places =>
        match Instr.fill (places[·]?) z.cells parts with
        | some cells => some (.agg cells)
        | none => none
    | some (.array _ e) =>
      match sizeT P e with
      | none => none
      | some size =>
        match Instr.fill (fun i => some (i * size, size)) z.cells parts with
        | some cells => some (.agg cells)
        | none => none
    | _ => none

def cPart (P : Program) (t : TypeId) (cs : Array Value) (off : Nat) : Option Value :=
  match aggT P t, sizeT P t with
  | some true, some n => some (.agg ⟨(cs.toList.drop off).take n⟩)
  | some false, _ => cs.toList[off]?
  | _, _ => none

/-- The bounds of a slice expression over a length and a capacity that is known. -/
def cBounds (len cap : Nat) (lo hi mx : Option Value) : Option (Nat × Nat × Nat) :=
  match (match mx with | some v => (cInt v).bind fun x => if 0 ≤ x ∧ x ≤ cap then some x.toNat else none | none => some cap) with
  | none => none
  | some m =>
    match (match hi, mx with
      | some v, _ => (cInt v).bind fun x => if 0 ≤ x ∧ x ≤ m then some x.toNat else none
      | none, none => some len
      | none, some _ => none) with
    | none => none
    | some h =>
      match (match lo with | some v => (cInt v).bind fun x => if 0 ≤ x ∧ x ≤ h then some x.toNat else none | none => some 0) with
      | none => none
      | some l => some (l, h, m)

def cSlice (P : Program) (t : TypeId) (x : Value) (lo hi mx : Option Value) : Option Value :=
  match P.underlying t, x with
  | some (.slice e), .slice a len cap =>
    match sizeT P e with
    | none => none
    | some size =>
      if cap ≤ INF then
        match cBounds len cap lo hi mx with
        | some (l, h, m) => some (.slice (if m = l then a else a.map (·.add (l * size))) (h - l) (m - l))
        | none => none
      else
        match mx with
        | some _ =>
          match cBounds len len lo hi mx with
          | some (l, h, m) => some (.slice (if m = l then a else a.map (·.add (l * size))) (h - l) (m - l))
          | none => none
        | none =>
          match cBounds len len lo hi none with
          | some (l, h, _) => some (.slice (a.map (·.add (l * size))) (h - l) (if UNK < cap then cap else cap - l))
          | none => none
  | some (.array n e), .pointer (some a) =>
    match sizeT P e, cBounds n n lo hi mx with
    | some size, some (l, h, m) => if n ≤ INF then some (.slice (some (if m = l then a else a.add (l * size))) (h - l) (m - l)) else none
    | _, _ => none
  | _, _ => none

def cIndexAddr (P : Program) (t : TypeId) (x ix : Value) : Option Value :=
  match cInt ix with
  | none => none
  | some i =>
    match P.underlying t, x with
    | some (.slice e), .slice (some a) len _ =>
      match sizeT P e with
      | some size => if 0 ≤ i ∧ i < len then some (.pointer (some (a.add (i.toNat * size)))) else none
      | none => none
    | some (.array n e), .pointer (some a) =>
      match sizeT P e with
      | some size => if 0 ≤ i ∧ i < n then some (.pointer (some (a.add (i.toNat * size)))) else none
      | none => none
    | _, _ => none

def cFieldAddr (P : Program) (s : TypeId) (x : Value) (f : Nat) : Option Value :=
  match P.underlying s, x with
  | some (.struct fields), .pointer (some a) =>
    match fields[f]? with
    | some fd =>
      match sizeT P fd.type with
      | some n => if n = 0 then none else some (.pointer (some (a.add fd.offset)))
      | none => none
    | none => none
  | _, _ => none

def cField (P : Program) (t : TypeId) (x : Value) (f : Nat) : Option Value :=
  match P.underlying t, x with
  | some (.struct fields), .agg cs =>
    match fields[f]? with
    | some fd => cPart P fd.type cs fd.offset
    | none => none
  | _, _ => none

def cIndex (P : Program) (t : TypeId) (x ix : Value) : Option Value :=
  match cInt ix with
  | none => none
  | some i =>
    match P.underlying t, x with
    | some (.array n e), .agg cs =>
      match sizeT P e with
      | some size => if 0 ≤ i ∧ i < n then cPart P e cs (i.toNat * size) else none
      | none => none
    | some .string, .string b =>
      match b.data.toList[i.toNat]? with
      | some c => if 0 ≤ i then some (.int .u8 c.toNat) else none
      | none => none
    | _, _ => none

def isPlainKey : Option TypeDesc → Bool
  | some (.int _) | some .bool => true
  | _ => false

/-- Key types whose keys are compared cell by cell: integers, bools, structs of these. -/
def keyT (P : Program) (kt : TypeId) : Bool :=
  match P.underlying kt with
  | some (.struct fields) => !P.stoodInHeld kt && fields.toList.zipIdx.all fun (f, i) => f.name != "_" && f.offset == i && sizeT P f.type == some 1 && isPlainKey (P.underlying f.type)
  | d => isPlainKey d

def fitLeaf : Option TypeDesc → Value → Bool
  | some (.int q), .int q' _ => q == q'
  | some .bool, .bool _ => true
  | _, _ => false

def fitLeaves (P : Program) : List Field → List Value → Bool
  | [], [] => true
  | f :: fs, v :: vs => fitLeaf (P.underlying f.type) v && fitLeaves P fs vs
  | _, _ => false

/-- Is this a key of the type? -/
def keyFits (P : Program) (kt : TypeId) (k : Value) : Bool :=
  match P.underlying kt, k with
  | some (.struct fields), .agg cs => fitLeaves P fields.toList cs.toList
  | some (.struct _), _ => false
  | d, v => fitLeaf d v

def eqLeaf : Value → Value → Bool
  | .int _ a, .int _ b => a == b
  | .bool a, .bool b => a == b
  | _, _ => false

def eqLeaves : List Value → List Value → Bool
  | [], [] => true
  | a :: l, b :: m => eqLeaf a b && eqLeaves l m
  | _, _ => false

def eqKey : Value → Value → Bool
  | .agg a, .agg b => eqLeaves a.toList b.toList
  | a, b => eqLeaf a b

def findEntry (k : Value) : List (Value × Value) → Nat → Option (Nat × Value)
  | [], _ => none
  | (x, v) :: es, i => if eqKey k x then some (i, v) else findEntry k es (i + 1)

def cEntries (h : List Blk) (m : Value) : Option (List (Value × Value)) :=
  match m with
  | .map none => some []
  | .map (some r) =>
    match h[r]? with
    | some (.map _ es) => some es
    | _ => none
  | _ => none

def cLookup (P : Program) (h : List Blk) (t : TypeId) (m k : Value) (ok : Bool) : Option Value :=
  match P.underlying t, m with
  | some (.map kt et), .map (some r) =>
    match h[r]? with
    | some (.map kt' es) =>
      if kt' = kt ∧ keyT P kt = true ∧ keyFits P kt k = true then
        match findEntry k es 0 with
        | some (_, v) => some (if ok then .tuple #[v, .bool true] else v)
        | none =>
          match zeroT P et with
          | some z => if isFlat z then some (if ok then .tuple #[z, .bool false] else z) else none
          | none => none
      else none
    | _ => none
  | _, _ => none

/-- Can this value lie in a cell? -/
def cellOk : Value → Bool
  | .agg _ | .tuple _ | .chan (some _) => false
  | _ => true

/-- A store of cells into one block. -/
def cStoreAt (base : Nat) (h : List Blk) (a : Addr) (xs : List Value) : Option (Option (Nat × Blk)) :=
  if a.spot.isSome then none else
  if xs.isEmpty then some none else
  match h[a.block]? with
  | some (.cells t vs) =>
    if base ≤ a.block ∧ a.off + xs.length ≤ vs.length ∧ xs.all cellOk = true then some (some (a.block, .cells t (vs.take a.off ++ xs ++ vs.drop (a.off + xs.length)))) else none
  | _ => none

def cStore (P : Program) (base : Nat) (h : List Blk) (t : TypeId) (a x : Value) : Option QRes :=
  match a, sizeT P t with
  | .pointer (some a), some n =>
    if x.cells.size = n ∧ okPart x = true then (cStoreAt base h a x.cells.toList).map fun u => { val := undef, upd := u } else none
  | _, _ => none

/-- What is appended: so many elements, their cells. (A `make` that is appended at once comes as its number.) -/
def appArg (h : List Blk) (size bytes : Nat) (zero : Value) (d : Option TypeDesc) (x : Value) : Option (Nat × List Value) :=
  match d, x with
  | some (.slice _), .slice xb xn _ => (readCells h xb (xn * size)).map fun xs => (xn, xs)
  | some (.int _), .int _ l =>
    if 0 ≤ l ∧ l < INF ∧ l * bytes ≤ 2 ^ 48 then some (l.toNat, (List.replicate l.toNat zero.cells.toList).flatten) else none
  | _, _ => none

def appIn (base : Nat) (h : List Blk) (size : Nat) (sb : Option Addr) (sLen sCap need : Nat) (xs : List Value) : Option QRes :=
  match sb with
  | some a => (cStoreAt base h (a.add (sLen * size)) xs).map fun u => { val := .slice sb need sCap, upd := u }
  | none => none

def appCopy (h : List Blk) (n : Nat) (e : TypeId) (size : Nat) (sb : Option Addr) (sLen need : Nat) (xs : List Value) : Option QRes :=
  match readCells h sb (sLen * size) with
  | some old => some { val := .slice (some ⟨n, 0, none⟩) need UNK, new := [.cells e (old ++ xs)] }
  | none => none

def appOn (P : Program) (base : Nat) (h : List Blk) (n : Nat) (e : TypeId) (size : Nat) (sb : Option Addr) (sLen sCap need : Nat) (xs : List Value) : Option QRes :=
  match sb with
  | some ⟨k, o, none⟩ =>
    match h[k]? with
    | some (.cells t vs) =>
      if base ≤ k ∧ sizeT P t = some size ∧ o = (UNK - sCap) * size ∧ sCap ≤ UNK ∧ o + sLen * size ≤ vs.length ∧ xs.all cellOk = true then
        some { val := .slice (some ⟨n, 0, none⟩) need UNK, new := [.cells e ((vs.drop o).take (sLen * size) ++ xs)], upd := some (k, .dead) }
      else none
    | _ => none
  | _ => none

/-- An empty list of the function's own, with no room. -/
def litK (P : Program) (base : Nat) (h : List Blk) (size : Nat) (sb : Option Addr) (sLen sCap : Nat) : Option Nat :=
  if sLen = 0 ∧ sCap = 0 then
    match sb with
    | some ⟨k, 0, none⟩ =>
      match h[k]? with
      | some (.cells t []) => if base ≤ k ∧ sizeT P t = some size then some k else none
      | _ => none
    | _ => none
  else none

/-- `append`. -/
def cAppend (P : Program) (base : Nat) (h : List Blk) (n : Nat) (ts : Array TypeId) (s x : Value) : Option QRes :=
  match (ts[0]?).bind P.underlying, s with
  | some (.slice e), .slice sb sLen sCap =>
    match sizeT P e, bytesT P e, zeroT P e with
    | some size, some bytes, some zero =>
      if flat1 zero = true ∧ zero.cells.size = size ∧ 0 < size then
        match appArg h size bytes zero ((ts[1]?).bind P.underlying) x with
        | none => none
        | some (xn, xs) =>
          match litK P base h size sb sLen sCap with
          | some k =>
            if (2 * xn + 1000) * (bytes + 1) > 2 ^ 48 then none else
            some { val := .slice (some ⟨n, 0, none⟩) xn UNK, new := [.cells e xs], upd := some (k, .dead) }
          | none =>
          if xn = 0 ∧ sCap ≤ INF then some { val := s } else
          if sCap ≤ INF ∧ sLen + xn ≤ sCap then appIn base h size sb sLen sCap (sLen + xn) xs else
          if (2 * (sLen + xn) + 1000) * (bytes + 1) > 2 ^ 48 then none else
          if sCap ≤ INF then appCopy h n e size sb sLen (sLen + xn) xs
          else appOn P base h n e size sb sLen sCap (sLen + xn) xs
      else none
    | _, _, _ => none
  | _, _ => none

def cMakeSlice (P : Program) (n : Nat) (t : TypeId) (l c : Value) : Option QRes :=
  match P.underlying t, cInt l, cInt c with
  | some (.slice e), some l, some c =>
    match sizeT P e, bytesT P e, zeroT P e with
    | some size, some bytes, some zero =>
      if !flat1 zero then none else
      if 0 ≤ l ∧ l ≤ c ∧ (bytes + 1) * c ≤ 2 ^ 48 ∧ c < INF ∧ zero.cells.size = size then
        some { val := .slice (some ⟨n, 0, none⟩) l.toNat c.toNat, new := [.cells e ((List.replicate c.toNat zero.cells.toList).flatten)] }
      else none
    | _, _, _ => none
  | _, _, _ => none

def cMapUpdate (P : Program) (base : Nat) (h : List Blk) (t : TypeId) (m k x : Value) : Option QRes :=
  match P.underlying t, m with
  | some (.map kt _), .map (some r) =>
    match h[r]? with
    | some (.map kt' es) =>
      if base ≤ r ∧ flat1 x = true ∧ kt' = kt ∧ keyT P kt = true ∧ keyFits P kt k = true then
        match findEntry k es 0 with
        | some (i, _) => some { val := undef, upd := some (r, .map kt (es.set i (k, x))) }
        | none => some { val := undef, upd := some (r, .map kt (es ++ [(k, x)])) }
      else none
    | _ => none
  | _, _ => none

def cDelete (P : Program) (base : Nat) (h : List Blk) (t : TypeId) (m k : Value) : Option QRes :=
  match P.underlying t, m with
  | some (.map kt _), .map (some r) =>
    match h[r]? with
    | some (.map kt' es) =>
      if base ≤ r ∧ kt' = kt ∧ keyT P kt = true ∧ keyFits P kt k = true then
        match findEntry k es 0 with
        | some (i, _) => some { val := .tuple #[], upd := some (r, .map kt (es.eraseIdx i)) }
        | none => some { val := .tuple #[], upd := some (r, .map kt es) }
      else none
    | _ => none
  | _, _ => none

/-- What the interpreter is told. -/
structure Env where
  P : Program
  /-- functions whose answers are known: the value, and the blocks that are made -/
  sum : FuncId → Option (List Value → List Blk → Option (Value × List Blk))
  /-- functions that write into what came in -/
  imp : FuncId → Bool
  /-- is the state kept written out? -/
  strict : Bool := false
  /-- functions that write into what came in, whose answers are known: the value, and the heap behind -/
  isum : FuncId → Option (List Value → Nat → List Blk → Option (Value × List Blk)) := fun _ => none

/-- The clean activation. -/
structure CAct where
  tmps : List Value
  marks : List Nat := []

def CAct.eval (a : CAct) : Operand → Value
  | .tmp t => getT a.tmps t
  | .const v => match isFlat v with | true => v | false => poison
  | .global _ => poison
  | .func f => .func (.func f) #[] #[]

/-- The interpreter with less fuel. -/
structure Rec where
  pcall : FuncId → List Value → List Blk → Option (Value × List Blk)
  icall : FuncId → List Value → Nat → List Blk → Option (Value × List Blk)
  code : Option Nat → Nat → Code → CAct → List Blk → Option (Exit × CAct × List Blk)

def Rec.none : Rec := ⟨fun _ _ _ => .none, fun _ _ _ _ => .none, fun _ _ _ _ _ => .none⟩

def callQ (E : Env) (r : Rec) (g : FuncId) (args : List Value) (h : List Blk) : Option (Value × List Blk) :=
  match (match E.sum g with | some s => s args h | none => none) with
  | some p => some p
  | none => if E.imp g then none else r.pcall g args h

def flatRun (P : Program) (vs : List Value) (s : Sem Value) : Option QRes :=
  if vs.all isFlat then
    match pureRun P s with
    | some v => if isFlat v then some { val := v } else none
    | none => none
  else none

def qv (v : Option Value) : Option QRes := v.map fun v => { val := v }

def qBuiltin (E : Env) (base : Nat) (h : List Blk) (n : Nat) (b : Builtin) (ts : Array TypeId) (ty : TypeId) (args : List Value) : Option QRes :=
  match b, args with
  | .append, [s, x] => cAppend E.P base h n ts s x
  | .len, [x] =>
    match (ts[0]?).bind E.P.underlying, x with
    | some (.slice _), .slice _ k _ => some { val := .int .i64 k }
    | some (.array k _), _ => some { val := .int .i64 k }
    | some (.map _ _), m => (cEntries h m).map fun es => { val := .int .i64 es.length }
    | some .string, .string s => some { val := .int .i64 s.size }
    | _, _ => none
  | .cap, [x] =>
    match (ts[0]?).bind E.P.underlying, x with
    | some (.slice _), .slice _ _ k => if k ≤ INF then some { val := .int .i64 k } else none
    | _, _ => none
  | .min, xs => flatRun E.P xs (Builtin.min_ ts ty xs.toArray)
  | .max, xs => flatRun E.P xs (Builtin.max_ ts ty xs.toArray)
  | .delete, [m, k] => (ts[0]?).bind fun t => cDelete E.P base h t m k
  | .clear, [.map (some m)] =>
    match (ts[0]?).bind E.P.underlying, h[m]? with
    | some _, some (.map kt _) => if base ≤ m then some { val := .tuple #[], upd := some (m, .map kt []) } else none
    | _, _ => none
  | .copy, [.slice (some a) dn _, .slice xb xn _] =>
    match (ts[0]?).bind E.P.underlying with
    | some (.slice e) =>
      match sizeT E.P e with
      | some size =>
        match readCells h xb (min xn dn * size) with
        | some xs => (cStoreAt base h a xs).map fun u => { val := .int .i64 (min xn dn : Nat), upd := u }
        | none => none
      | none => none
    | _ => none
  | _, _ => none

def qPick (c a b : Value) : Option QRes :=
  match c with
  | .bool t => some { val := if t then a else b }
  | _ => none

def qAlloc (P : Program) (n : Nat) (t : TypeId) : Option QRes :=
  match zeroT P t with
  | some z => if flat1 z then some { val := .pointer (some ⟨n, 0, none⟩), new := [.cells t z.cells.toList] } else none
  | none => none

def qBox (n : Nat) (t : TypeId) (v : Value) : Option QRes :=
  if okPart v then some { val := .pointer (some ⟨n, 0, none⟩), new := [.cells t v.cells.toList] } else none

def qNilCheck (v : Value) : Option QRes :=
  match v with
  | .pointer (some a) => some { val := .pointer (some a) }
  | .func (.func g) f c => some { val := .func (.func g) f c }
  | _ => none

def intBin (op : BinOp) (k k' : IntKind) (a b : Int) : Option Value :=
  if k ≠ k' then none else
  match op with
  | .add => some (.int k (k.wrap (a + b)))
  | .sub => some (.int k (k.wrap (a - b)))
  | .mul => some (.int k (k.wrap (a * b)))
  | .quo => if b = 0 then none else some (.int k (k.wrap (a.tdiv b)))
  | .rem => if b = 0 then none else some (.int k (a.tmod b))
  | .eql => some (.bool (a == b))
  | .neq => some (.bool (a != b))
  | .lss => some (.bool (a < b))
  | .leq => some (.bool (a ≤ b))
  | .gtr => some (.bool (a > b))
  | .geq => some (.bool (a ≥ b))
  | _ => none

def cmpKeys (P : Program) (op : BinOp) (t : TypeId) (a b : Value) : Option Value :=
  if keyT P t = true ∧ keyFits P t a = true ∧ keyFits P t b = true then
    match op with
    | .eql => some (.bool (eqKey a b))
    | .neq => some (.bool (!eqKey a b))
    | _ => none
  else none

def qBin (P : Program) (op : BinOp) (t : TypeId) (x y : Operand) (vx vy : Value) : Option QRes :=
  match vx, vy with
  | .int k a, .int k' b =>
    match intBin op k k' a b with
    | some v => some { val := v }
    | none => flatRun P [vx, vy] (do eqGuard op t x y vx vy; binOp op t vx vy)
  | .bool a, .bool b =>
    match op with
    | .eql | .neq => qv (cmpKeys P op t (.bool a) (.bool b))
    | _ => none
  | .agg a, .agg b =>
    match cmpKeys P op t (.agg a) (.agg b) with
    | some v => some { val := v }
    | none => flatRun P [vx, vy] (do eqGuard op t x y vx vy; binOp op t vx vy)
  | .slice (some _) l _, .slice none _ _ =>
    if 0 < l then
      match op, P.underlying t with
      | .eql, some (.slice _) => some { val := .bool false }
      | .neq, some (.slice _) => some { val := .bool true }
      | _, _ => none
    else none
  | vx, vy => flatRun P [vx, vy] (do eqGuard op t x y vx vy; binOp op t vx vy)

def qUn (P : Program) (op : UnOp) (v : Value) : Option QRes :=
  match op, v with
  | .not, .bool b => some { val := .bool !b }
  | .neg, .int k n => some { val := .int k (k.wrap (0 - n)) }
  | op, v => flatRun P [v] (Op.unary op v)

def qConvert (P : Program) (s d : TypeId) (v : Value) : Option QRes := flatRun P [v] (convert s d v)

def qMakeMap (P : Program) (n : Nat) (t : TypeId) : Option QRes :=
  match P.underlying t with
  | some (.map kt _) => some { val := .map (some n), new := [.map kt []] }
  | _ => none

def qExtract (v : Value) (ix : Nat) : Option QRes :=
  match v with
  | .tuple vs => qv (vs.toList[ix]?)
  | _ => none

def qCall (E : Env) (r : Rec) (h : List Blk) (f : Value) (args : List Value) : Option QRes :=
  match f with
  | .func (.func g) first captured => (callQ E r g (first.toList ++ args ++ captured.toList) h).map fun p => { val := p.1, new := p.2 }
  | _ => none

def partsOf (ρ : Operand → Value) (parts : Array (Nat × Operand)) : List (Nat × Value) := parts.toList.map fun p => (p.1, ρ p.2)

/-- A quiet operation: it reads, makes blocks (n is the number of the first one), and writes one block at most. -/
def qOp (E : Env) (r : Rec) (base : Nat) (h : List Blk) (n : Nat) (ρ : Operand → Value) (o : Oper) : Option QRes :=
  match o.op with
  | .move x => some { val := ρ x }
  | .assign x => some { val := ρ x }
  | .pick c a b => qPick (ρ c) (ρ a) (ρ b)
  | .alloc t => qAlloc E.P n t
  | .box t x => qBox n t (ρ x)
  | .build t parts => qv (cBuild E.P t (partsOf ρ parts))
  | .buildSlice t len parts => cBuildSlice E.P n t len (partsOf ρ parts)
  | .load t a => qv (cLoad E.P h t (ρ a))
  | .store t a x => cStore E.P base h t (ρ a) (ρ x)
  | .nilCheck x => qNilCheck (ρ x)
  | .binOp op t x y _ => qBin E.P op t x y (ρ x) (ρ y)
  | .unOp op _ x => qUn E.P op (ρ x)
  | .convert s d x => qConvert E.P s d (ρ x)
  | .makeFunc (.func g) first captured => some { val := .func (.func g) ⟨first.toList.map ρ⟩ ⟨captured.toList.map ρ⟩ }
  | .makeMap t none => qMakeMap E.P n t
  | .makeSlice t l c => cMakeSlice E.P n t (ρ l) (ρ c)
  | .slice t x lo hi mx => qv (cSlice E.P t (ρ x) (lo.map ρ) (hi.map ρ) (mx.map ρ))
  | .fieldAddr s x f => qv (cFieldAddr E.P s (ρ x) f)
  | .field t x f => qv (cField E.P t (ρ x) f)
  | .indexAddr t x ix => qv (cIndexAddr E.P t (ρ x) (ρ ix))
  | .index t x ix => qv (cIndex E.P t (ρ x) (ρ ix))
  | .lookup t m k ok => qv (cLookup E.P h t (ρ m) (ρ k) ok)
  | .mapUpdate t m k x => cMapUpdate E.P base h t (ρ m) (ρ k) (ρ x)
  | .insert t m k x => cMapUpdate E.P base h t (ρ m) (ρ k) (ρ x)
  | .extract t ix => qExtract (ρ t) ix
  | .call ⟨.value f, args, _⟩ => qCall E r h (ρ f) (args.toList.map ρ)
  | .call ⟨.builtin b, args, ts⟩ => qBuiltin E base h n b ts o.type (args.toList.map ρ)
  | _ => none

/-- A round of a loop over a function: what its end says. -/
def endRound (h : List Blk) (l : Nat) (e : Exit) : Option (Value × List Blk) :=
  match h[l]? with
  | some (.loop t p a b .busy none) =>
    match e with
    | .normal => some (.bool true, h.set l (.loop t p a b .ready none))
    | .exit id => some (.bool false, h.set l (.loop t p a b .done (some (.exit id))))
    | .ret => some (.bool false, h.set l (.loop t p a b .done (some .ret)))
    | _ => none
  | _ => none

def setAll : List Tmp → List Value → List Value → List Value
  | t :: ts, v :: vs, l => setAll ts vs (l.set t v)
  | _, _, l => l

/-- The round itself, behind the assignments to the loop's left sides. -/
def cRound (r : Rec) (base l : Nat) (body : Code) (a : CAct) (h : List Blk) : Option (Value × List Blk) :=
  match h[l]? with
  | some (.loop t p as b .ready none) =>
    match r.code (some l) base body a (h.set l (.loop t p as b .busy none)) with
    | some (e, _, h2) => endRound h2 l e
    | none => none
  | _ => none

def cYield (r : Rec) (base : Nat) (h : List Blk) (l : Nat) (args : List Value) : Option (Value × List Blk) :=
  match h[l]? with
  | some (.loop tmps params assign body .ready none) =>
    if base ≤ l ∧ args.length = params.length then
      match r.code (some l) base assign { tmps := setAll params args tmps } h with
      | some (.normal, a1, h1) => cRound r base l body a1 h1
      | _ => none
    else none
  | _ => none

/-- A call that may write: of a closure, or of a round of a loop over a function. -/
def iCall (E : Env) (r : Rec) (base : Nat) (h : List Blk) (f : Value) (args : List Value) : Option (Value × List Blk) :=
  match f with
  | .func (.func g) first captured =>
    if (E.sum g).isNone && E.imp g then r.icall g (first.toList ++ args ++ captured.toList) base h else none
  | .func (.yield l) first captured => if first.size = 0 ∧ captured.size = 0 then cYield r base h l args else none
  | _ => none

def iOp (E : Env) (r : Rec) (base : Nat) (h : List Blk) (ρ : Operand → Value) (o : Oper) : Option (Value × List Blk) :=
  match o.op with
  | .call ⟨.value f, args, _⟩ => iCall E r base h (ρ f) (args.toList.map ρ)
  | _ => none

def isImp (E : Env) : Value → Bool
  | .func (.func g) _ _ => (E.sum g).isNone && E.imp g
  | .func (.yield _) _ _ => true
  | _ => false

def isImpCall (E : Env) (ρ : Operand → Value) (o : Oper) : Bool :=
  match o.op with
  | .call ⟨.value f, _, _⟩ => isImp E (ρ f)
  | _ => false

/-- The state behind a quiet operation. -/
def applyK {α : Type} (E : Env) (h : List Blk) (q : QRes) (k : Value → List Blk → α) : α :=
  if E.strict then
    forceV q.val fun v =>
      match q.upd with
      | none => forceBs q.new fun new => appK h new fun h => k v h
      | some (i, b) => forceB b fun b => setK h i b fun h => forceBs q.new fun new => appK h new fun h => k v h
  else k q.val ((match q.upd with | some (i, b) => h.set i b | none => h) ++ q.new)

def putK {α : Type} (E : Env) (a : CAct) (dst : Option Tmp) (v : Value) (k : CAct → α) : α :=
  match dst with
  | none => k a
  | some d => if E.strict then setK a.tmps d v fun l => k { a with tmps := l } else k { a with tmps := a.tmps.set d v }

def cWanted (ops : List Oper) (a : CAct) (o : Oper) : Option Bool :=
  match o.guard with
  | none => some true
  | some (j, want) =>
    match (ops[j]?).bind (·.dst) with
    | some d =>
      match getT a.tmps d with
      | .bool b => some (b == want)
      | .chan (some _) => none
      | _ => some false
    | none => some false

/-- The operations of a region one after the other. -/
def seqOps (E : Env) (r : Rec) (base : Nat) (ops : List Oper) : List Oper → CAct → List Blk → Option (CAct × List Blk)
  | [], a, h => some (a, h)
  | o :: rest, a, h =>
    match cWanted ops a o with
    | some true =>
      if isImpCall E a.eval o then
        match iOp E r base h a.eval o with
        | some (v, h') => putK E a o.dst v fun a => seqOps E r base ops rest a h'
        | none => none
      else
        match qOp E r base h h.length a.eval o with
        | some q => applyK E h q fun v h' => putK E a o.dst v fun a => seqOps E r base ops rest a h'
        | none => none
    | some false => putK E a o.dst undef fun a => seqOps E r base ops rest a h
    | none => none

/-! A region that draws its order: a first part of quiet operations, in whatever order; then a tail that is ordered. -/

/-- From where on each operation stands behind all before it. -/
def tailFrom (bf : List Nat) : Nat → Nat
  | 0 => 0
  | j + 1 => if (List.range j).all fun i => (bf.getD j 0).testBit i then tailFrom bf j else j + 1

structure QSt where
  act : CAct
  heap : List Blk
  /-- which operation has made which blocks -/
  own : List (Nat × Nat × Nat) := []
  /-- which operation has written which block -/
  upds : List (Nat × Nat) := []

def hidden (bf : List Nat) (own : List (Nat × Nat × Nat)) (upds : List (Nat × Nat)) (j id : Nat) : Bool :=
  own.any (fun (i, f, t) => decide (f ≤ id) && decide (id < t) && !(bf.getD j 0).testBit i) ||
  upds.any (fun (i, k) => k == id && !(i == j) && !(bf.getD i 0).testBit j && !(bf.getD j 0).testBit i)

def masked (bf : List Nat) (own : List (Nat × Nat × Nat)) (upds : List (Nat × Nat)) (j : Nat) (h : List Blk) : List Blk :=
  if own.isEmpty && upds.isEmpty then h else h.zipIdx.map fun (b, id) => if hidden bf own upds j id then .dead else b

/-- The first part, in the text's order; `us`: what is written in it, by whom. -/
def quietOps (E : Env) (r : Rec) (base : Nat) (ops : List Oper) (bf : List Nat) (us : List (Nat × Nat)) : List Oper → Nat → QSt → Option QSt
  | [], _, s => some s
  | o :: rest, j, s =>
    match cWanted ops s.act o with
    | some true =>
      match qOp E r base (masked bf s.own us j s.heap) s.heap.length s.act.eval o with
      | some q =>
        applyK E s.heap q fun v h' => putK E s.act o.dst v fun a =>
          quietOps E r base ops bf us rest (j + 1)
            { act := a, heap := h',
              own := if q.new.isEmpty then s.own else (j, s.heap.length, s.heap.length + q.new.length) :: s.own,
              upds := match q.upd with | some (k, _) => (j, k) :: s.upds | none => s.upds }
      | none => none
    | some false => putK E s.act o.dst undef fun a => quietOps E r base ops bf us rest (j + 1) { s with act := a }
    | none => none

/-- The temporaries that an operation looks at. -/
def opNames (ops : List Oper) (o : Oper) : List Tmp :=
  (match o.guard with | some (j, _) => ((ops[j]?).bind (·.dst)).toList | none => []) ++ o.op.operands.toList.filterMap fun | .tmp t => some t | _ => none

/-- Every edge that binds leads back. -/
def edgesBack : List Oper → Nat → Bool
  | [], _ => true
  | o :: rest, j => o.after.toList.all (fun e => !Region.binds .any e || decide (e.on < j)) && edgesBack rest (j + 1)

/-- Two operations of the first part that are not ordered do not meet in a temporary. -/
def quietOk (ops : List Oper) (bf : List Nat) (s : Nat) : Bool :=
  (List.range s).all fun j =>
    match ops[j]? with
    | none => false
    | some oj =>
      (List.range s).all fun i =>
        match ops[i]? with
        | none => false
        | some oi => i == j || (bf.getD j 0).testBit i || (bf.getD i 0).testBit j ||
          (match oi.dst with | none => true | some d => !(oj.dst == some d) && !(opNames ops oj).contains d)

def drawOps (E : Env) (r : Rec) (base : Nat) (ops : List Oper) (bf : List Nat) (s : Nat) (a : CAct) (h : List Blk) : Option (CAct × List Blk) :=
  match quietOps E r base ops bf [] (ops.take s) 0 { act := a, heap := h } with
  | none => none
  | some q =>
    match (if q.upds.isEmpty then some q else (quietOps E r base ops bf q.upds (ops.take s) 0 { act := a, heap := h }).bind fun q' => if q'.upds == q.upds then some q' else none) with
    | none => none
    | some q => seqOps E r base ops (ops.drop s) q.act q.heap

def cResults (P : Program) (fn : Func) (a : CAct) (h : List Blk) : Option Value :=
  match fn.results.toList.mapM (fun | .tmp t => some (getT a.tmps t) | .cell x t => cLoad P h t (getT a.tmps x)) with
  | some [v] => some v
  | some vs => some (.tuple ⟨vs⟩)
  | none => none

/-- The blocks from n on to which a value leads at once. -/
def refsLeaf (n : Nat) : Value → List Nat
  | .pointer (some a) | .slice (some a) _ _ => if n ≤ a.block then [a.block] else []
  | .map (some r) => if n ≤ r then [r] else []
  | _ => []
def refs1 (n : Nat) : Value → List Nat
  | .agg cs => cs.toList.flatMap (refsLeaf n)
  | v => refsLeaf n v
def refs (n : Nat) : Value → List Nat
  | .tuple vs => vs.toList.flatMap (refs1 n)
  | v => refs1 n v

/-- Is this a value whose blocks can be told by `refs`? -/
def plainLeaf : Value → Bool
  | .func _ _ _ | .iface _ _ | .agg _ | .tuple _ | .chan (some _) => false
  | _ => true
def plain1 : Value → Bool
  | .agg cs => cs.toList.all plainLeaf
  | v => plainLeaf v
def plainV : Value → Bool
  | .tuple vs => vs.toList.all plain1
  | v => plain1 v

def renLeaf (f : Nat → Nat) : Value → Value
  | .pointer (some a) => .pointer (some { a with block := f a.block })
  | .slice (some a) l c => .slice (some { a with block := f a.block }) l c
  | .map (some r) => .map (some (f r))
  | v => v
def ren1 (f : Nat → Nat) : Value → Value
  | .agg cs => .agg ⟨cs.toList.map (renLeaf f)⟩
  | v => renLeaf f v
def renV (f : Nat → Nat) : Value → Value
  | .tuple vs => .tuple ⟨vs.toList.map (ren1 f)⟩
  | v => ren1 f v

def blkFlat : Blk → Bool
  | .cells _ vs => vs.all isFlat
  | .map _ _ => true
  | _ => false

/-- Behind a call that wrote nothing: of the blocks from n on only what the value leads to is kept, in the value's order. -/
def tidy (n : Nat) (v : Value) (h : List Blk) : Value × List Blk :=
  if isFlat v then (v, []) else
  let ids := (refs n v).eraseDups
  if plainV v && ids.all (fun i => match h[i]? with | some b => blkFlat b | none => false) then
    (renV (fun i => if i < n then i else n + ids.idxOf i) v, ids.map fun i => h.getD i .dead)
  else (v, h.drop n)

/-- The blocks for rounds' deferred calls are shut where the function is left. -/
def shutMarks (base : Nat) : List Nat → List Blk → Option (List Blk)
  | [], h => some h
  | m :: ms, h =>
    match h[m]? with
    | some .mark => if base ≤ m then shutMarks base ms (h.set m .dead) else none
    | _ => none

def runBody (E : Env) (r : Rec) (base : Nat) (g : FuncId) (args : List Value) (h : List Blk) : Option (Value × List Blk) :=
  match E.P.funcs[g]? with
  | some fn =>
    match fn.body with
    | some c =>
      if fn.name == "runtime.NumGoroutine" then none else
      match (if E.strict then forceList forceV args fun args => appK args (List.replicate (fn.ntmps - args.length) undef) fun l => r.code none base c { tmps := l } h
        else r.code none base c { tmps := args ++ List.replicate (fn.ntmps - args.length) undef } h) with
      | some (.normal, a, h') | some (.ret, a, h') =>
        match shutMarks base a.marks h' with
        | some h2 => (cResults E.P fn a h2).map fun v => (v, h2)
        | none => none
      | _ => none
    | none => none
  | none => none

def codeDraw0 (E : Env) (r : Rec) (base : Nat) (ops : Array Oper) (a : CAct) (h : List Blk) : Option (Exit × CAct × List Blk) :=
  if edgesBack ops.toList 0 && quietOk ops.toList (Region.before ops).toList (tailFrom (Region.before ops).toList ops.size) then
    (drawOps E r base ops.toList (Region.before ops).toList (tailFrom (Region.before ops).toList ops.size) a h).map fun p => (.normal, p.1, p.2)
  else none

/-- Which lists of operations are ordered: from each such place on all stands behind all before it. -/
def cutsAux : List Nat → Nat → Nat × List Nat
  | [], p => (2 ^ p - 1, [p])
  | b :: bs, p =>
    match cutsAux bs (p + 1) with
    | (m, cs) => (Nat.land m b, if p = 0 then cs else if Nat.land (Nat.land m b) (2 ^ p - 1) = 2 ^ p - 1 then p :: cs else cs)

def quietIn (ops : List Oper) (bf : List Nat) (p q : Nat) : Bool :=
  (List.range q).all fun j => decide (j < p) ||
    match ops[j]? with
    | none => false
    | some oj =>
      (List.range q).all fun i => decide (i < p) ||
        match ops[i]? with
        | none => false
        | some oi => i == j || (bf.getD j 0).testBit i || (bf.getD i 0).testBit j ||
          (match oi.dst with | none => true | some d => !(oj.dst == some d) && !(opNames ops oj).contains d)

def quietPart (E : Env) (r : Rec) (base : Nat) (ops : List Oper) (bf : List Nat) (p q : Nat) (a : CAct) (h : List Blk) : Option (CAct × List Blk) :=
  if quietIn ops bf p q then
    match quietOps E r base ops bf [] ((ops.take q).drop p) p { act := a, heap := h } with
    | none => none
    | some s =>
      match (if s.upds.isEmpty then some s else (quietOps E r base ops bf s.upds ((ops.take q).drop p) p { act := a, heap := h }).bind fun q' => if q'.upds == s.upds then some q' else none) with
      | none => none
      | some s => some (s.act, s.heap)
  else none

/-- A region in parts: each is one operation, or quiet operations in whatever order. -/
def drawParts (E : Env) (r : Rec) (base : Nat) (ops : List Oper) (bf : List Nat) : List Nat → Nat → CAct → List Blk → Option (CAct × List Blk)
  | [], _, a, h => some (a, h)
  | q :: rest, p, a, h =>
    match (if q = p + 1 then seqOps E r base ops ((ops.take q).drop p) a h else quietPart E r base ops bf p q a h) with
    | some (a, h) => drawParts E r base ops bf rest q a h
    | none => none

def codeParts (E : Env) (r : Rec) (base : Nat) (ops : Array Oper) (a : CAct) (h : List Blk) : Option (Exit × CAct × List Blk) :=
  if edgesBack ops.toList 0 then
    (drawParts E r base ops.toList (Region.before ops).toList (cutsAux (Region.before ops).toList 0).2 0 a h).map fun p => (.normal, p.1, p.2)
  else none

def codeDraw (E : Env) (r : Rec) (base : Nat) (ops : Array Oper) (a : CAct) (h : List Blk) : Option (Exit × CAct × List Blk) :=
  match codeDraw0 E r base ops a h with
  | some x => some x
  | none => codeParts E r base ops a h

def codeSeq (r : Rec) (ro : Option Nat) (base : Nat) (y : Code) (x : Option (Exit × CAct × List Blk)) : Option (Exit × CAct × List Blk) :=
  match x with
  | some (.normal, a, h) => r.code ro base y a h
  | x => x

def codeCond (r : Rec) (ro : Option Nat) (base : Nat) (x y : Code) (a : CAct) (h : List Blk) (v : Value) : Option (Exit × CAct × List Blk) :=
  match v with
  | .bool true => r.code ro base x a h
  | .bool false => r.code ro base y a h
  | _ => none

def codeBlock (id : Nat) (x : Option (Exit × CAct × List Blk)) : Option (Exit × CAct × List Blk) :=
  match x with
  | some (.exit i, a, h) => some (if i = id then .normal else .exit i, a, h)
  | x => x

/-- Where a loop over a function begins: an outermost one lays a block for the rounds' deferred calls. -/
def rangeMark (base : Nat) (ro : Option Nat) (a : CAct) (h : List Blk) : Option (CAct × List Blk) :=
  match ro with
  | none => some ({ a with marks := h.length :: a.marks }, h ++ [Blk.mark])
  | some l0 => match h[l0]? with | some (.loop ..) => if base ≤ l0 then some (a, h) else none | _ => none

def codeRange (E : Env) (r : Rec) (ro : Option Nat) (base : Nat) (params : Array Tmp) (assign body : Code) (a : CAct) (h : List Blk) (v : Value) : Option (Exit × CAct × List Blk) :=
  match v with
  | .func (.func f) first captured =>
    match rangeMark base ro a h with
    | some (a', h1) =>
      if (E.sum f).isNone && E.imp f then
        match r.icall f (first.toList ++ [Value.func (.yield h1.length) #[] #[]] ++ captured.toList) base (h1 ++ [Blk.loop a.tmps params.toList assign body .ready none]) with
        | some (_, h2) =>
          match h2[h1.length]? with
          | some (.loop _ _ _ _ .ready none) => some (.normal, a', h2.set h1.length .dead)
          | some (.loop _ _ _ _ .done (some c)) => r.code ro base c a' (h2.set h1.length .dead)
          | _ => none
        | none => none
      else none
    | none => none
  | _ => none

def codeScope (x : Option (Exit × CAct × List Blk)) : Option (Exit × CAct × List Blk) :=
  match x with
  | some (.goto _, _, _) => none
  | x => x

def stepCode (E : Env) (r : Rec) (ro : Option Nat) (base : Nat) (c : Code) (a : CAct) (h : List Blk) : Option (Exit × CAct × List Blk) :=
  match c with
  | .skip => some (.normal, a, h)
  | .region _ ops false => (seqOps E r base ops.toList ops.toList a h).map fun p => (.normal, p.1, p.2)
  | .region _ ops true => codeDraw E r base ops a h
  | .seq x y => codeSeq r ro base y (r.code ro base x a h)
  | .cond c x y => codeCond r ro base x y a h (a.eval c)
  | .block id c => codeBlock id (r.code ro base c a h)
  | .loop c => codeSeq r ro base (.loop c) (r.code ro base c a h)
  | .scope c => codeScope (r.code ro base c a h)
  | .label _ => some (.normal, a, h)
  | .exit id => some (.exit id, a, h)
  | .ret => some (.ret, a, h)
  | .rangeFunc g params assign body => codeRange E r ro base params assign body a h (a.eval g)
  | _ => none

/-- One more layer of fuel. -/
def layer (E : Env) (r : Rec) : Rec :=
    { pcall := fun g args h => (runBody E r h.length g args h).map fun (v, h') => tidy h.length v h'
      icall := fun g args base h => match (match E.isum g with | some s => s args base h | none => none) with | some p => some p | none => runBody E r base g args h
      code := stepCode E r }

def run (E : Env) (n : Nat) : Rec := Nat.rec Rec.none (fun _ r => layer E r) n

end
end Go.Cl
/- The relation between the clean heap and the model's world. -/
namespace Go.Cl
open Go Go.RowKit

/-! ### Values -/

/-- A clean value (its blocks among D) stands for a value of the model: β: where a block lies, from which cell on; κ: how many elements fit from there on, where an append has made it. -/
inductive VR (D : Nat → Prop) (β : Nat → Nat × Nat) (κ : Nat → Nat) : Value → Value → Prop where
  | bool (b) : VR D β κ (.bool b) (.bool b)
  | int (k x) : VR D β κ (.int k x) (.int k x)
  | float (k x) : VR D β κ (.float k x) (.float k x)
  | complex (k x y) : VR D β κ (.complex k x y) (.complex k x y)
  | string (s) : VR D β κ (.string s) (.string s)
  | nilFunc : VR D β κ .nilFunc .nilFunc
  | nilIface : VR D β κ .nilIface .nilIface
  | pnil : VR D β κ (.pointer none) (.pointer none)
  | ptr (i o) (hi : D i) : VR D β κ (.pointer (some ⟨i, o, none⟩)) (.pointer (some ⟨(β i).1, (β i).2 + o, none⟩))
  | snil : VR D β κ (.slice none 0 0) (.slice none 0 0)
  | sliceZ (i o) (a : Option Addr) : VR D β κ (.slice (some ⟨i, o, none⟩) 0 0) (.slice a 0 0)
  | slice (i o l c) (hi : D i) (hlc : l ≤ c) (hc : c ≤ INF) : VR D β κ (.slice (some ⟨i, o, none⟩) l c) (.slice (some ⟨(β i).1, (β i).2 + o, none⟩) l c)
  | sliceU (i o l q) (hi : D i) (hq : q + l ≤ κ i) (hk : κ i < INF) : VR D β κ (.slice (some ⟨i, o, none⟩) l (UNK - q)) (.slice (some ⟨(β i).1, (β i).2 + o, none⟩) l (κ i - q))
  | sliceE (i o q) (a : Option Addr) (hq : q < INF) : VR D β κ (.slice (some ⟨i, o, none⟩) 0 (UNK - q)) (.slice a 0 0)
  | sliceA (i o l C c) (hi : D i) (hC : UNK < C) (hlc : l ≤ c) (hc : c ≤ INF) : VR D β κ (.slice (some ⟨i, o, none⟩) l C) (.slice (some ⟨(β i).1, (β i).2 + o, none⟩) l c)
  | sliceAN (i o C a) (hC : UNK < C) : VR D β κ (.slice (some ⟨i, o, none⟩) 0 C) (.slice a 0 0)
  | mnil : VR D β κ (.map none) (.map none)
  | map (i) (hi : D i) : VR D β κ (.map (some i)) (.map (some (β i).1))
  | cnil : VR D β κ (.chan none) (.chan none)
  | poison (v) : VR D β κ (.chan (some 0)) v
  | func (g) (f f' c c' : List Value) (hf : f.length = f'.length) (hf' : ∀ (j : Nat) (v v' : Value), f[j]? = some v → f'[j]? = some v' → VR D β κ v v')
      (hc : c.length = c'.length) (hc' : ∀ (j : Nat) (v v' : Value), c[j]? = some v → c'[j]? = some v' → VR D β κ v v') : VR D β κ (.func (.func g) ⟨f⟩ ⟨c⟩) (.func (.func g) ⟨f'⟩ ⟨c'⟩)
  | yield (l) (hl : D l) : VR D β κ (.func (.yield l) #[] #[]) (.func (.yield (β l).1) #[] #[])
  | agg (l l' : List Value) (hl : l.length = l'.length) (hl' : ∀ (j : Nat) (v v' : Value), l[j]? = some v → l'[j]? = some v' → VR D β κ v v') : VR D β κ (.agg ⟨l⟩) (.agg ⟨l'⟩)
  | tuple (l l' : List Value) (hl : l.length = l'.length) (hl' : ∀ (j : Nat) (v v' : Value), l[j]? = some v → l'[j]? = some v' → VR D β κ v v') : VR D β κ (.tuple ⟨l⟩) (.tuple ⟨l'⟩)

/-- Lists, cell by cell. -/
structure LR (D : Nat → Prop) (β : Nat → Nat × Nat) (κ : Nat → Nat) (l l' : List Value) : Prop where
  len : l.length = l'.length
  at_ : ∀ (j : Nat) (v v' : Value), l[j]? = some v → l'[j]? = some v' → VR D β κ v v'

def Ext (D : Nat → Prop) (β : Nat → Nat × Nat) (κ : Nat → Nat) (β' : Nat → Nat × Nat) (κ' : Nat → Nat) : Prop := ∀ i, D i → β' i = β i ∧ κ' i = κ i

section
variable {D D' : Nat → Prop} {β β' : Nat → Nat × Nat} {κ κ' : Nat → Nat}

theorem VR.mono {v v' : Value} (h : VR D β κ v v') (hD : ∀ i, D i → D' i) (hE : Ext D β κ β' κ') : VR D' β' κ' v v' := by
  induction h with
  | bool => constructor
  | int => constructor
  | float => constructor
  | complex => constructor
  | string => constructor
  | nilFunc => constructor
  | nilIface => constructor
  | pnil => constructor
  | ptr i o hi => rw [← (hE i hi).1]; exact .ptr i o (hD i hi)
  | snil => constructor
  | slice i o l c hi hlc hc => rw [← (hE i hi).1]; exact .slice i o l c (hD i hi) hlc hc
  | sliceU i o l q hi hq hk => rw [← (hE i hi).1, ← (hE i hi).2] at *; exact .sliceU i o l q (hD i hi) hq hk
  | sliceE i o q a hq => exact .sliceE i o q a hq
  | sliceZ i o a => exact .sliceZ i o a
  | sliceA i o l C c hi hC hlc hc => rw [← (hE i hi).1]; exact .sliceA i o l C c (hD i hi) hC hlc hc
  | sliceAN i o C a hC => exact .sliceAN i o C a hC
  | mnil => constructor
  | map i hi => rw [← (hE i hi).1]; exact .map i (hD i hi)
  | cnil => constructor
  | poison => constructor
  | func g f f' c c' hf _ hc _ ih1 ih2 => exact .func g f f' c c' hf ih1 hc ih2
  | yield l hl => rw [← (hE l hl).1]; exact .yield l (hD l hl)
  | agg l l' hl _ ih => exact .agg l l' hl ih
  | tuple l l' hl _ ih => exact .tuple l l' hl ih

theorem LR.mono {l l' : List Value} (h : LR D β κ l l') (hD : ∀ i, D i → D' i) (hE : Ext D β κ β' κ') : LR D' β' κ' l l' :=
  ⟨h.len, fun j v v' a b => (h.at_ j v v' a b).mono hD hE⟩

theorem Ext.refl : Ext D β κ β κ := fun _ _ => ⟨rfl, rfl⟩
theorem Ext.trans {β'' : Nat → Nat × Nat} {κ'' : Nat → Nat} (h : Ext D β κ β' κ') (h' : Ext D' β' κ' β'' κ'') (hD : ∀ i, D i → D' i) : Ext D β κ β'' κ'' :=
  fun i hi => ⟨(h' i (hD i hi)).1.trans (h i hi).1, (h' i (hD i hi)).2.trans (h i hi).2⟩

theorem LR.get {l l' : List Value} (h : LR D β κ l l') {j : Nat} {v : Value} (hv : l[j]? = some v) : ∃ v', l'[j]? = some v' ∧ VR D β κ v v' := by
  obtain ⟨hj, _⟩ := List.getElem?_eq_some_iff.1 hv
  have hj' : j < l'.length := h.len ▸ hj
  exact ⟨l'[j], List.getElem?_eq_getElem hj', h.at_ _ _ _ hv (List.getElem?_eq_getElem hj')⟩
theorem LR.nil : LR D β κ [] [] := ⟨rfl, fun j v v' h => by simp at h⟩
theorem LR.cons {v v' : Value} {l l' : List Value} (h : VR D β κ v v') (hl : LR D β κ l l') : LR D β κ (v :: l) (v' :: l') :=
  ⟨by simp [hl.len], fun j x x' hx hx' => by
    cases j with
    | zero => simp at hx hx'; subst hx hx'; exact h
    | succ j => exact hl.at_ j _ _ (by simpa using hx) (by simpa using hx')⟩
theorem LR.uncons {v : Value} {l m : List Value} (h : LR D β κ (v :: l) m) : ∃ v' l', m = v' :: l' ∧ VR D β κ v v' ∧ LR D β κ l l' := by
  cases m with
  | nil => exact absurd h.len (by simp)
  | cons v' l' => exact ⟨v', l', rfl, h.at_ 0 _ _ rfl rfl, ⟨by simpa using h.len, fun j x x' hx hx' => h.at_ (j + 1) _ _ (by simpa using hx) (by simpa using hx')⟩⟩
theorem LR.unnil {m : List Value} (h : LR D β κ [] m) : m = [] := by cases m with | nil => rfl | cons => exact absurd h.len (by simp)
theorem LR.app {l l' m m' : List Value} (h : LR D β κ l l') (k : LR D β κ m m') : LR D β κ (l ++ m) (l' ++ m') :=
  ⟨by simp [h.len, k.len], fun j v v' hv hv' => by
    rw [List.getElem?_append] at hv hv'
    rw [← h.len] at hv'
    split at hv <;> rename_i hj
    · rw [if_pos hj] at hv'; exact h.at_ _ _ _ hv hv'
    · rw [if_neg hj] at hv'; exact k.at_ _ _ _ hv hv'⟩
theorem LR.drop {l l' : List Value} (h : LR D β κ l l') (n : Nat) : LR D β κ (l.drop n) (l'.drop n) :=
  ⟨by simp [h.len], fun j v v' hv hv' => h.at_ (n + j) _ _ (by simpa using hv) (by simpa using hv')⟩
theorem LR.take {l l' : List Value} (h : LR D β κ l l') (n : Nat) : LR D β κ (l.take n) (l'.take n) :=
  ⟨by simp [h.len], fun j v v' hv hv' => by
    rw [List.getElem?_take] at hv hv'
    split at hv
    · rename_i hj; rw [if_pos hj] at hv'; exact h.at_ _ _ _ hv hv'
    · cases hv⟩
theorem LR.set {l l' : List Value} (h : LR D β κ l l') (n : Nat) {v v' : Value} (hv : VR D β κ v v') : LR D β κ (l.set n v) (l'.set n v') :=
  ⟨by simp [h.len], fun j x x' hx hx' => by
    rw [List.getElem?_set] at hx hx'
    rw [← h.len] at hx'
    split at hx
    · rename_i hj; rw [if_pos hj] at hx'
      split at hx
      · rename_i hl; rw [if_pos hl] at hx'; cases hx; cases hx'; exact hv
      · cases hx
    · rename_i hj; rw [if_neg hj] at hx'; exact h.at_ _ _ _ hx hx'⟩
theorem LR.map {γ : Type} {l : List γ} {f f' : γ → Value} (h : ∀ x ∈ l, VR D β κ (f x) (f' x)) : LR D β κ (l.map f) (l.map f') :=
  ⟨by simp, fun j v v' hv hv' => by
    rw [List.getElem?_map] at hv hv'
    cases hx : l[j]? with
    | none => rw [hx] at hv; cases hv
    | some x => rw [hx] at hv hv'; cases hv; cases hv'; exact h x (List.mem_of_getElem? hx)⟩
theorem LR.rep (n : Nat) {v v' : Value} (h : VR D β κ v v') : LR D β κ (List.replicate n v) (List.replicate n v') :=
  ⟨by simp, fun j x x' hx hx' => by
    rw [List.getElem?_replicate] at hx hx'
    split at hx
    · rename_i hj; rw [if_pos hj] at hx'; cases hx; cases hx'; exact h
    · cases hx⟩
theorem VR.undef : VR D β κ undef undef := .tuple [] [] rfl (fun j v v' h => by simp at h)

/-! ### Flat values stand for themselves -/

theorem VR.leaf {v v' : Value} (h : VR D β κ v v') (hf : leafFlat v = true) : v' = v := by
  cases h <;> simp_all [leafFlat]
theorem VR.of_leaf {v : Value} (hf : leafFlat v = true) : VR D β κ v v := by
  cases v with
  | pointer a => cases a with | none => constructor | some a => simp [leafFlat] at hf
  | slice a l c =>
    cases a with
    | some a => simp [leafFlat] at hf
    | none =>
      cases l with
      | succ l => simp [leafFlat] at hf
      | zero => cases c with | zero => constructor | succ c => simp [leafFlat] at hf
  | map a => cases a with | none => constructor | some a => simp [leafFlat] at hf
  | chan a => cases a with | none => constructor | some a => simp [leafFlat] at hf
  | agg cs => simp [leafFlat] at hf
  | tuple cs => simp [leafFlat] at hf
  | _ => first | constructor | simp [leafFlat] at hf
theorem LR.leaves {l l' : List Value} (h : LR D β κ l l') (hf : l.all leafFlat = true) : l' = l := by
  refine List.ext_getElem? fun j => ?_
  cases hv : l[j]? with
  | none =>
    have : l.length ≤ j := List.getElem?_eq_none_iff.1 hv
    exact List.getElem?_eq_none (h.len ▸ this)
  | some v =>
    obtain ⟨v', hv', hr⟩ := h.get hv
    rw [hv', hr.leaf (List.all_eq_true.1 hf v (List.mem_of_getElem? hv))]
theorem LR.of_leaves {l : List Value} (hf : l.all leafFlat = true) : LR D β κ l l :=
  ⟨rfl, fun j v v' hv hv' => by rw [hv] at hv'; cases hv'; exact .of_leaf (List.all_eq_true.1 hf v (List.mem_of_getElem? hv))⟩
theorem VR.flat1 {v v' : Value} (h : VR D β κ v v') (hf : flat1 v = true) : v' = v := by
  have h0 := h
  cases h with
  | agg l l' hl hl' => rw [LR.leaves ⟨hl, hl'⟩ (by simpa [Cl.flat1] using hf)]
  | _ => exact h0.leaf (by simpa [Cl.flat1] using hf)
theorem VR.of_flat1 {v : Value} (hf : Cl.flat1 v = true) : VR D β κ v v := by
  cases v with
  | agg cs => obtain ⟨l⟩ := cs; have h : LR D β κ l l := .of_leaves (by simpa [Cl.flat1] using hf); exact .agg l l h.len h.at_
  | _ => exact VR.of_leaf (by simpa [Cl.flat1] using hf)
theorem VR.flat {v v' : Value} (h : VR D β κ v v') (hf : isFlat v = true) : v' = v := by
  have h0 := h
  cases h with
  | tuple l l' hl hl' =>
    have hall : ∀ x ∈ l, Cl.flat1 x = true := by simpa [isFlat] using hf
    have : l' = l := by
      refine List.ext_getElem? fun j => ?_
      cases hv : l[j]? with
      | none => exact List.getElem?_eq_none (hl ▸ List.getElem?_eq_none_iff.1 hv)
      | some v =>
        obtain ⟨v', hv', hr⟩ := LR.get ⟨hl, hl'⟩ hv
        rw [hv', hr.flat1 (hall v (List.mem_of_getElem? hv))]
    rw [this]
  | agg l l' hl hl' => exact h0.flat1 (by simpa [isFlat] using hf)
  | _ => exact h0.leaf (by simpa [isFlat, Cl.flat1] using hf)
theorem VR.of_flat {v : Value} (hf : isFlat v = true) : VR D β κ v v := by
  cases v with
  | tuple cs =>
    obtain ⟨l⟩ := cs
    have hall : ∀ x ∈ l, Cl.flat1 x = true := by simpa [isFlat] using hf
    exact .tuple l l rfl fun j v v' hv hv' => by rw [hv] at hv'; cases hv'; exact .of_flat1 (hall v (List.mem_of_getElem? hv))
  | agg cs => exact VR.of_flat1 (by simpa [isFlat] using hf)
  | _ => exact VR.of_leaf (by simpa [isFlat, Cl.flat1] using hf)
theorem flat_of_leaf {v : Value} (h : leafFlat v = true) : isFlat v = true := by cases v <;> simp_all [leafFlat, isFlat, Cl.flat1]

theorem VR.cells {v v' : Value} (h : VR D β κ v v') (hp : v ≠ .chan (some 0)) : LR D β κ v.cells.toList v'.cells.toList := by
  cases h with
  | agg l l' hl hl' => exact ⟨hl, hl'⟩
  | poison => exact absurd rfl hp
  | _ => exact LR.cons (by constructor <;> assumption) .nil
end
end Go.Cl
/- The relation between the clean heap and the model's world: blocks, worlds, one step. -/
namespace Go.Cl
open Go Go.RowKit

/-- The clean heap as a function. -/
def toF (h : List Blk) (i : Nat) : Blk := h.getD i .dead

def Stamped (arr : Array MapEntry) (clock : Nat) : Prop := (∀ e ∈ arr.toList, e.born < clock) ∧ (arr.toList.map (·.born)).Nodup

/-- What a clean block says of the world. -/
def BR (P : Program) (D : Nat → Prop) (β : Nat → Nat × Nat) (κ : Nat → Nat) (i : Nat) (b : Blk) (w : World) : Prop :=
  match b with
  | .dead => True
  | .cells _ vs => ∃ arr T fz, w.heap[(β i).1]? = some (.cells arr T fz) ∧ ∀ (k : Nat) (v : Value), vs[k]? = some v → ∃ v', arr[(β i).2 + k]? = some v' ∧ VR D β κ v v'
  | .map kt es => ∃ arr clock, w.heap[(β i).1]? = some (.map arr clock) ∧ arr.toList.map (fun e => (e.key, e.val)) = es ∧ (∀ p ∈ es, keyFits P kt p.1 = true ∧ flat1 p.2 = true) ∧ Stamped arr clock
  | .loop tmps params assign body st pend => ∃ r : Loop, w.heap[(β i).1]? = some (.loop r) ∧ r.state = st ∧ r.pending = pend ∧ r.params.toList = params ∧ r.assign = assign ∧ r.body = body ∧ LR D β κ tmps r.tmps.toList
  | .mark => w.heap[(β i).1]? = some (.deferred (some []))
  | .mapS kt arr clock => w.heap[(β i).1]? = some (.map arr clock) ∧ (∀ e ∈ arr.toList, keyFits P kt e.key = true ∧ flat1 e.val = true) ∧ Stamped arr clock
  | .iter m since seen last => D m ∧ (β i).2 = 0 ∧ w.heap[(β i).1]? = some (.mapIter (some (β m).1) since seen last)

/-- What a block of the call's own says besides: it may be written; what an append has made has room. -/
def OwnB (P : Program) (β : Nat → Nat × Nat) (κ : Nat → Nat) (i : Nat) (b : Blk) (w : World) : Prop :=
  match b with
  | .cells t _ => ∃ arr T, w.heap[(β i).1]? = some (.cells arr T (0, 0)) ∧ ∀ s, sizeT P t = some s → (β i).2 + κ i * s ≤ arr.size
  | _ => True

/-- Blocks of the world that are kept. -/
structure Kp where
  has : Nat → Prop
def Kp.under (n : Nat) : Kp := ⟨fun k => k < n⟩
def Kp.upto (N : Kp) (n : Nat) : Prop := ∀ k, N.has k → k < n
def Kp.free (N : Kp) (k : Nat) : Prop := ¬ N.has k
def Kp.sub (N M : Kp) : Prop := ∀ k, N.has k → M.has k
theorem Kp.upto.le {N : Kp} {n m : Nat} (h : N.upto n) (hm : n ≤ m) : N.upto m := fun k hk => Nat.lt_of_lt_of_le (h k hk) hm
theorem Kp.upto.free {N : Kp} {n k : Nat} (h : N.upto n) (hk : n ≤ k) : N.free k := fun hN => absurd (h k hN) (Nat.not_lt.2 hk)
theorem Kp.under.upto (n : Nat) : (Kp.under n).upto n := fun _ hk => hk
theorem Kp.under.le {n k : Nat} (h : (Kp.under n).free k) : n ≤ k := Nat.not_lt.1 h
theorem Kp.ne {N : Kp} {k b : Nat} (hk : N.has k) (hb : N.free b) : k ≠ b := fun e => hb (e ▸ hk)

/-- What is kept of the world w is in w' as it was. -/
structure Held (N : Kp) (w w' : World) : Prop where
  os : w'.os = w.os
  tape : w'.tape = w.tape
  output : w'.output = w.output
  size : w.heap.size ≤ w'.heap.size
  block : ∀ k, N.has k → w'.heap[k]? = w.heap[k]?

theorem Held.refl (N : Kp) (w : World) : Held N w w := ⟨rfl, rfl, rfl, Nat.le_refl _, fun _ _ => rfl⟩
theorem Held.trans {N : Kp} {a b c : World} (h : Held N a b) (k : Held N b c) : Held N a c :=
  ⟨k.os.trans h.os, k.tape.trans h.tape, k.output.trans h.output, Nat.le_trans h.size k.size, fun i hi => (k.block i hi).trans (h.block i hi)⟩
theorem Held.mono {N M : Kp} {w w' : World} (h : Held M w w') (hN : N.sub M) : Held N w w' := ⟨h.os, h.tape, h.output, h.size, fun k hk => h.block k (hN k hk)⟩
theorem Held.drew {N : Kp} {a w : World} (h : Held N a w) : Held N a w.drew := ⟨h.os, h.tape, h.output, h.size, h.block⟩
theorem Held.alloc {N : Kp} {a w : World} (h : Held N a w) (hN : N.upto w.heap.size) (o : Obj) : Held N a (w.alloc o) :=
  h.trans ⟨rfl, rfl, rfl, by simp, fun k hk => Below.heap_alloc _ _ _ (hN k hk)⟩
theorem Held.below {n : Nat} {w w' : World} (h : Held (Kp.under n) w w') : Below n w w' := ⟨h.os, h.tape, h.output, h.size, fun k hk => h.block k hk⟩

structure Rel (P : Program) (D : Nat → Prop) (β : Nat → Nat × Nat) (κ : Nat → Nat) (base : Nat) (N : Kp) (H : Nat → Blk) (w : World) : Prop where
  blk : ∀ i, BR P D β κ i (H i) w
  ro : ∀ i, H i ≠ .dead → i < base → N.has (β i).1
  own : ∀ i, H i ≠ .dead → base ≤ i → N.free (β i).1 ∧ OwnB P β κ i (H i) w
  inj : ∀ i j, H i ≠ .dead → H j ≠ .dead → base ≤ i → base ≤ j → (β i).1 = (β j).1 → i = j
  size : N.upto w.heap.size

section
variable {P : Program} {D D' : Nat → Prop} {β β' : Nat → Nat × Nat} {κ κ' : Nat → Nat} {base n : Nat} {N : Kp} {H H' : Nat → Blk} {w w' : World}

theorem BR.move {i : Nat} {b : Blk} (h : BR P D β κ i b w) (hD : ∀ i, D i → D' i) (hE : Ext D β κ β' κ') (hi : β' i = β i)
    (hw : w'.heap[(β i).1]? = w.heap[(β i).1]?) : BR P D' β' κ' i b w' := by
  cases b with
  | dead => trivial
  | cells t vs =>
    obtain ⟨arr, T, fz, h1, h2⟩ := h
    refine ⟨arr, T, fz, by rw [hi, hw]; exact h1, fun k v hv => ?_⟩
    obtain ⟨v', h3, h4⟩ := h2 k v hv
    exact ⟨v', by rw [hi]; exact h3, h4.mono hD hE⟩
  | map kt es => obtain ⟨arr, clock, h1, h2⟩ := h; exact ⟨arr, clock, by rw [hi, hw]; exact h1, h2⟩
  | loop tmps params assign body st pend =>
    obtain ⟨r, h1, h2, h3, h4, h5, h6, h7⟩ := h
    exact ⟨r, by rw [hi, hw]; exact h1, h2, h3, h4, h5, h6, h7.mono hD hE⟩
  | mark => show _ = _; rw [hi, hw]; exact h
  | mapS kt arr clock => exact ⟨by rw [hi, hw]; exact h.1, h.2⟩
  | iter m since seen last => exact ⟨hD m h.1, by rw [hi]; exact h.2.1, by rw [hi, hw, (hE m h.1).1]; exact h.2.2⟩
theorem BR.valid {i : Nat} {b : Blk} (h : BR P D β κ i b w) (hb : b ≠ .dead) : (β i).1 < w.heap.size := by
  have : ∀ o : Obj, w.heap[(β i).1]? = some o → (β i).1 < w.heap.size := fun o ho => (Array.getElem?_eq_some_iff.1 ho).1
  cases b with
  | dead => exact absurd rfl hb
  | cells t vs => obtain ⟨arr, T, fz, h1, _⟩ := h; exact this _ h1
  | map kt es => obtain ⟨arr, clock, h1, _⟩ := h; exact this _ h1
  | loop tmps params assign body st pend => obtain ⟨r, h1, _⟩ := h; exact this _ h1
  | mark => exact this _ h
  | mapS kt arr clock => exact this _ h.1
  | iter m since seen last => exact this _ h.2.2
theorem OwnB.move {i : Nat} {b : Blk} (h : OwnB P β κ i b w) (hi : β' i = β i ∧ κ' i = κ i) (hw : w'.heap[(β i).1]? = w.heap[(β i).1]?) : OwnB P β' κ' i b w' := by
  cases b with
  | cells t vs => obtain ⟨arr, T, h1, h2⟩ := h; exact ⟨arr, T, by rw [hi.1, hw]; exact h1, by rw [hi.1, hi.2]; exact h2⟩
  | _ => trivial

theorem Rel.weaken (h : Rel P D β κ base N H w) (hH : ∀ i, H' i = H i ∨ H' i = .dead) : Rel P D β κ base N H' w := by
  have al : ∀ i, H' i ≠ .dead → H' i = H i ∧ H i ≠ .dead := fun i hi => by
    rcases hH i with e | e
    · exact ⟨e, e ▸ hi⟩
    · exact absurd e hi
  refine ⟨fun i => ?_, fun i hi => h.ro i (al i hi).2, fun i hi hb => ?_, fun i j hi hj => h.inj i j (al i hi).2 (al j hj).2, h.size⟩
  · rcases hH i with e | e
    · rw [e]; exact h.blk i
    · rw [e]; trivial
  · rw [(al i hi).1]; exact h.own i (al i hi).2 hb

/-- Is this block written by the operation? -/
def isUpd (u : Option (Nat × Blk)) (i : Nat) : Prop := ∃ b, u = some (i, b)

def InNew (n len i : Nat) : Prop := n ≤ i ∧ i < n + len

/-- What a quiet operation leaves, in the model. -/
structure QOut (P : Program) (D : Nat → Prop) (β : Nat → Nat × Nat) (κ : Nat → Nat) (base : Nat) (N : Kp) (n : Nat) (w : World) (q : QRes) (v' : Value) (w' : World) (β' : Nat → Nat × Nat) (κ' : Nat → Nat) : Prop where
  ext : ∀ i, ¬ InNew n q.new.length i → β' i = β i ∧ κ' i = κ i
  val : VR (fun i => D i ∨ InNew n q.new.length i) β' κ' q.val v'
  below : Held N w w'
  keep : ∀ B, B < w.heap.size → (∀ k b, q.upd = some (k, b) → B ≠ (β k).1) → w'.heap[B]? = w.heap[B]?
  new : ∀ j b, q.new[j]? = some b → b ≠ .dead → BR P (fun i => D i ∨ InNew n q.new.length i) β' κ' (n + j) b w' ∧ OwnB P β' κ' (n + j) b w' ∧ N.free (β' (n + j)).1 ∧
    (w.heap.size ≤ (β' (n + j)).1 ∨ ∃ k, q.upd = some (k, .dead) ∧ (β' (n + j)).1 = (β k).1)
  inj : ∀ i j b c, q.new[i]? = some b → q.new[j]? = some c → b ≠ .dead → c ≠ .dead → (β' (n + i)).1 = (β' (n + j)).1 → i = j
  upd : ∀ k b, q.upd = some (k, b) → base ≤ k ∧ k < n ∧ BR P (fun i => D i ∨ InNew n q.new.length i) β' κ' k b w' ∧ OwnB P β' κ' k b w'

/-- The heap behind an operation. -/
def stepF (n : Nat) (q : QRes) (H : Nat → Blk) (i : Nat) : Blk :=
  if n ≤ i ∧ i < n + q.new.length then q.new.getD (i - n) .dead else
  match q.upd with
  | some (k, b) => if i = k then b else H i
  | none => H i

theorem stepF_new {q : QRes} {i : Nat} (h : InNew n q.new.length i) : ∃ b, q.new[i - n]? = some b ∧ stepF n q H i = b ∧ i = n + (i - n) := by
  obtain ⟨h1, h2⟩ := h
  have : i - n < q.new.length := by omega
  refine ⟨q.new[i - n], List.getElem?_eq_getElem this, ?_, by omega⟩
  unfold stepF
  rw [if_pos ⟨h1, h2⟩]
  simp [this]
theorem stepF_old {q : QRes} {i : Nat} (h : ¬ InNew n q.new.length i) : (∃ b, q.upd = some (i, b) ∧ stepF n q H i = b) ∨ ((∀ b, q.upd ≠ some (i, b)) ∧ stepF n q H i = H i) := by
  unfold stepF
  rw [if_neg (show ¬ (n ≤ i ∧ i < n + q.new.length) from h)]
  cases hu : q.upd with
  | none => exact .inr ⟨fun b e => (by cases e), rfl⟩
  | some p =>
    obtain ⟨k, b⟩ := p
    by_cases hk : i = k
    · subst hk; exact .inl ⟨b, rfl, by simp⟩
    · exact .inr ⟨fun b e => by cases e; exact hk rfl, by simp [hk]⟩

/-- ONE STEP. D0, H: the state at hand; D: what the operation was told (a part of it). -/
theorem Rel.step {D0 : Nat → Prop} {q : QRes} {v' : Value} (hR : Rel P D0 β κ base N H w) (hQ : QOut P D β κ base N n w q v' w' β' κ')
    (hDD : ∀ i, D i → D0 i) (hfresh : ∀ i, D0 i → ¬ InNew n q.new.length i) (hbase : base ≤ n)
    (halive : ∀ k b, q.upd = some (k, b) → H k ≠ .dead) :
    Rel P (fun i => D0 i ∨ InNew n q.new.length i) β' κ' base N (stepF n q H) w' := by
  have hE : Ext D0 β κ β' κ' := fun i hi => hQ.ext i (hfresh i hi)
  have hvalid : ∀ i, H i ≠ .dead → (β i).1 < w.heap.size := fun i hi => (hR.blk i).valid hi
  -- an old block that is not written: its place in the world is as it was
  have hkeep : ∀ i, H i ≠ .dead → ¬ InNew n q.new.length i → (∀ b, q.upd ≠ some (i, b)) → w'.heap[(β i).1]? = w.heap[(β i).1]? := fun i hi hni hu => by
    refine hQ.keep _ (hvalid i hi) fun k b e heq => ?_
    obtain ⟨hbk, _, _, _⟩ := hQ.upd k b e
    by_cases hib : base ≤ i
    · have := hR.inj i k hi (halive k b e) hib hbk heq
      subst this
      exact hu b e
    · have h1 := hR.ro i hi (by omega)
      exact Kp.ne h1 (hR.own k (halive k b e) hbk).1 heq
  have hmono : ∀ i, (D i ∨ InNew n q.new.length i) → (D0 i ∨ InNew n q.new.length i) := fun i h => h.imp (hDD i) id
  refine ⟨fun i => ?_, fun i hi hib => ?_, fun i hi hib => ?_, fun i j hi hj hib hjb he => ?_, hR.size.le hQ.below.size⟩
  · by_cases hn : InNew n q.new.length i
    · obtain ⟨b, hb, e, ei⟩ := stepF_new (H := H) hn
      rw [e]
      by_cases hd : b = .dead
      · subst hd; trivial
      · have := (hQ.new _ b hb hd).1
        rw [← ei] at this
        exact this.move hmono Ext.refl rfl rfl
    · rcases stepF_old (H := H) hn with ⟨b, hu, e⟩ | ⟨hu, e⟩
      · rw [e]; exact (hQ.upd i b hu).2.2.1.move hmono Ext.refl rfl rfl
      · rw [e]
        by_cases hd : H i = .dead
        · rw [hd]; trivial
        · exact (hR.blk i).move (fun _ h => .inl h) hE (hQ.ext i hn).1 (hkeep i hd hn hu)
  · have hn : ¬ InNew n q.new.length i := fun hn => by have := hn.1; omega
    rw [(hQ.ext i hn).1]
    rcases stepF_old (H := H) hn with ⟨b, hu, e⟩ | ⟨hu, e⟩
    · have := (hQ.upd i b hu).1; omega
    · rw [e] at hi; exact hR.ro i hi hib
  · by_cases hn : InNew n q.new.length i
    · obtain ⟨b, hb, e, ei⟩ := stepF_new (H := H) hn
      rw [e] at hi ⊢
      obtain ⟨_, h2, h3, _⟩ := hQ.new _ b hb hi
      rw [← ei] at h2 h3
      exact ⟨h3, h2⟩
    · rcases stepF_old (H := H) hn with ⟨b, hu, e⟩ | ⟨hu, e⟩
      · rw [e]
        refine ⟨?_, (hQ.upd i b hu).2.2.2⟩
        rw [(hQ.ext i hn).1]
        exact (hR.own i (halive i b hu) hib).1
      · rw [e] at hi ⊢
        obtain ⟨h1, h2⟩ := hR.own i hi hib
        exact ⟨by rw [(hQ.ext i hn).1]; exact h1, h2.move (hQ.ext i hn) (hkeep i hi hn hu)⟩
  · -- no two of the call's own blocks lie in one
    have old : ∀ i, ¬ InNew n q.new.length i → stepF n q H i ≠ .dead → H i ≠ .dead ∧ (β' i).1 = (β i).1 := fun i hn hi => by
      refine ⟨?_, by rw [(hQ.ext i hn).1]⟩
      rcases stepF_old (H := H) hn with ⟨b, hu, e⟩ | ⟨hu, e⟩
      · exact halive i b hu
      · rw [e] at hi; exact hi
    have mixed : ∀ i j, InNew n q.new.length i → ¬ InNew n q.new.length j → stepF n q H i ≠ .dead → stepF n q H j ≠ .dead → base ≤ j → (β' i).1 ≠ (β' j).1 := fun i j hi hj ai aj hjb he => by
      obtain ⟨b, hb, e, ei⟩ := stepF_new (H := H) hi
      rw [e] at ai
      obtain ⟨_, _, _, h4⟩ := hQ.new _ b hb ai
      rw [← ei] at h4
      obtain ⟨a1, a2⟩ := old j hj aj
      rw [a2] at he
      rcases h4 with h4 | ⟨k, hk, h4⟩
      · have := hvalid j a1; omega
      · have hkj := hR.inj k j (halive k _ hk) a1 (hQ.upd k _ hk).1 hjb (h4 ▸ he)
        subst hkj
        rcases stepF_old (H := H) hj with ⟨b', hu, e'⟩ | ⟨hu, _⟩
        · rw [hk] at hu; cases hu; exact aj e'
        · exact hu _ hk
    by_cases hni : InNew n q.new.length i <;> by_cases hnj : InNew n q.new.length j
    · obtain ⟨b, hb, e, ei⟩ := stepF_new (H := H) hni
      obtain ⟨c, hc, e', ej⟩ := stepF_new (H := H) hnj
      rw [e] at hi
      rw [e'] at hj
      rw [ei, ej] at he
      have := hQ.inj _ _ b c hb hc hi hj he
      omega
    · exact absurd he (mixed i j hni hnj hi hj hjb)
    · exact absurd he.symm (mixed j i hnj hni hj hi hib)
    · obtain ⟨a1, a2⟩ := old i hni hi
      obtain ⟨b1, b2⟩ := old j hnj hj
      rw [a2, b2] at he
      exact hR.inj i j a1 b1 hib hjb he
end
end Go.Cl
/- Operations, one by one: values, new blocks, reads. -/
namespace Go.Cl
open Go Go.RowKit

section
variable {P : Program} {w : World}

theorem pureRun_run {α : Type} {s : Sem α} {a : α} (h : pureRun P s = some a) (w : World) : s.run P w = .ok a w := by
  induction s with
  | pure b => simp [pureRun] at h; subst h; rfl
  | program k ih => simp only [pureRun] at h; simp only [Sem.run]; exact ih _ h
  | mark m k ih => simp only [pureRun] at h; simp only [Sem.run]; exact ih h
  | _ => simp [pureRun] at h

theorem run_size {t : TypeId} {s : Nat} (h : sizeT P t = some s) (w : World) : (sizeOf t).run P w = .ok s w := by
  unfold sizeT at h
  cases hi : P.info? t with
  | none => rw [hi] at h; cases h
  | some i => rw [hi] at h; cases h; simp [sizeOf, typeInfo, hi]
theorem run_info {t : TypeId} {b : Nat} (h : bytesT P t = some b) (w : World) : ∃ i, (typeInfo t).run P w = .ok i w ∧ i.bytes = b := by
  unfold bytesT at h
  cases hi : P.info? t with
  | none => rw [hi] at h; cases h
  | some i => rw [hi] at h; cases h; exact ⟨i, by simp [typeInfo, hi], rfl⟩
theorem run_zero {t : TypeId} {z : Value} (h : zeroT P t = some z) (w : World) : (zeroValue t).run P w = .ok z w := by
  unfold zeroT at h
  cases hi : P.info? t with
  | none => rw [hi] at h; cases h
  | some i => rw [hi] at h; simp at h; simp [zeroValue, typeInfo, hi, h]
theorem run_und {t : TypeId} {d : TypeDesc} (h : P.underlying t = some d) (w : World) : (underlying t).run P w = .ok d w := run_underlying h w
theorem run_isAgg {t : TypeId} {b : Bool} (h : aggT P t = some b) (w : World) : (isAgg t).run P w = .ok b w := by
  unfold aggT at h
  cases hd : P.underlying t with
  | none => rw [hd] at h; cases h
  | some d =>
    rw [hd] at h
    unfold isAgg
    rw [Sem.run_bind, run_und hd]
    cases d <;> simp at h <;> subst h <;> simp

variable {D : Nat → Prop} {β : Nat → Nat × Nat} {κ : Nat → Nat} {base n : Nat} {N : Kp}

/-- Nothing turns. -/
theorem QOut.same {v v' : Value} (h : VR D β κ v v') : QOut P D β κ base N n w { val := v } v' w β κ where
  ext := fun _ _ => ⟨rfl, rfl⟩
  val := h.mono (fun _ h => .inl h) Ext.refl
  below := Held.refl _ _
  keep := fun _ _ _ => rfl
  new := fun j b h => by simp at h
  inj := fun i j b c h => by simp at h
  upd := fun k b h => by simp at h

theorem inNew_one {i : Nat} : InNew n 1 i ↔ i = n := by unfold InNew; omega

theorem heap_alloc_old {o : Obj} {k : Nat} (h : k < w.heap.size) : (w.alloc o).heap[k]? = w.heap[k]? := Below.heap_alloc w o k h
theorem heap_alloc_new {o : Obj} : (w.alloc o).heap[w.heap.size]? = some o := by
  show (w.heap.push o)[w.heap.size]? = _
  simp

/-- One new block. -/
theorem QOut.one {b : Blk} {o : Obj} {v v' : Value} (hN : N.upto w.heap.size) (hn : ∀ i, D i → i ≠ n)
    (hb : ∀ β' κ', β' n = (w.heap.size, 0) → κ' n = 0 → (∀ i, i ≠ n → β' i = β i ∧ κ' i = κ i) → BR P (fun i => D i ∨ InNew n 1 i) β' κ' n b (w.alloc o) ∧ OwnB P β' κ' n b (w.alloc o) ∧ VR (fun i => D i ∨ InNew n 1 i) β' κ' v v') :
    ∃ β' κ', QOut P D β κ base N n w { val := v, new := [b] } v' (w.alloc o) β' κ' := by
  refine ⟨fun i => if i = n then (w.heap.size, 0) else β i, fun i => if i = n then 0 else κ i, ?_⟩
  obtain ⟨h1, h2, h3⟩ := hb (fun i => if i = n then (w.heap.size, 0) else β i) (fun i => if i = n then 0 else κ i) (by simp) (by simp) (fun i hi => by simp [hi])
  exact {
    ext := fun i hi => by have : i ≠ n := fun e => hi (by subst e; exact ⟨Nat.le_refl _, by simp⟩); simp [this]
    val := h3
    below := (Held.refl _ _).alloc hN _
    keep := fun B hB _ => heap_alloc_old hB
    new := fun j c hc _ => by
      cases j with
      | zero => simp at hc; subst hc; exact ⟨h1, h2, by simpa using hN.free (Nat.le_refl _), .inl (by simp)⟩
      | succ j => simp at hc
    inj := fun i j b c hi hj _ _ _ => by
      cases i with
      | zero => cases j with | zero => rfl | succ j => simp at hj
      | succ i => simp at hi
    upd := fun k c h => by simp at h }

/-- A new row of cells. -/
theorem QOut.cells {t : TypeId} {vs vs' : List Value} {v v' : Value} (hN : N.upto w.heap.size) (hn : ∀ i, D i → i ≠ n) (h : LR D β κ vs vs')
    (hv : ∀ β' κ', β' n = (w.heap.size, 0) → κ' n = 0 → VR (fun i => D i ∨ InNew n 1 i) β' κ' v v') :
    ∃ β' κ', QOut P D β κ base N n w { val := v, new := [.cells t vs] } v' (w.alloc (.cells ⟨vs'⟩ t)) β' κ' := by
  refine QOut.one hN hn fun β' κ' hβ hκ he => ⟨?_, ?_, hv β' κ' hβ hκ⟩
  · refine ⟨⟨vs'⟩, t, (0, 0), by rw [hβ]; exact heap_alloc_new, fun k x hx => ?_⟩
    obtain ⟨x', hx', hr⟩ := h.get hx
    exact ⟨x', by rw [hβ]; simpa using hx', hr.mono (fun _ h => .inl h) (fun i hi => he i (hn i hi))⟩
  · exact ⟨⟨vs'⟩, t, by rw [hβ]; exact heap_alloc_new, fun s _ => by rw [hβ, hκ]; simp⟩

theorem vr_newptr {β' : Nat → Nat × Nat} {κ' : Nat → Nat} (hβ : β' n = (w.heap.size, 0)) : VR (fun i => D i ∨ InNew n 1 i) β' κ' (.pointer (some ⟨n, 0, none⟩)) (.pointer (some ⟨w.heap.size, 0, none⟩)) := by
  have := VR.ptr (D := fun i => D i ∨ InNew n 1 i) (β := β') (κ := κ') n 0 (.inr (inNew_one.2 rfl))
  rwa [hβ] at this
theorem vr_newslice {β' : Nat → Nat × Nat} {κ' : Nat → Nat} (l c : Nat) (hlc : l ≤ c) (hc : c ≤ INF) (hβ : β' n = (w.heap.size, 0)) : VR (fun i => D i ∨ InNew n 1 i) β' κ' (.slice (some ⟨n, 0, none⟩) l c) (.slice (some ⟨w.heap.size, 0, none⟩) l c) := by
  have := VR.slice (D := fun i => D i ∨ InNew n 1 i) (β := β') (κ := κ') n 0 l c (.inr (inNew_one.2 rfl)) hlc hc
  rwa [hβ] at this

theorem run_alloc {t : TypeId} {z : Value} (h : zeroT P t = some z) (w : World) : (Instr.alloc t true (.tuple #[])).run P w = .ok (.pointer (some ⟨w.heap.size, 0, none⟩)) (w.alloc (.cells z.cells t)) := by
  simp [Instr.alloc, run_zero h, newVar, newRow]
theorem run_box (t : TypeId) (v : Value) (w : World) : (Instr.box t v).run P w = .ok (.pointer (some ⟨w.heap.size, 0, none⟩)) (w.alloc (.cells v.cells t)) := by
  simp [Instr.box, newVar, newRow]

theorem flat_cells {v : Value} (h : isFlat v = true) (ht : ∀ vs, v ≠ .tuple vs) : v.cells.toList.all leafFlat = true := by
  cases v with
  | tuple vs => exact absurd rfl (ht vs)
  | agg cs => simpa [isFlat, flat1, Value.cells] using h
  | _ => simpa [isFlat, flat1, Value.cells] using h

/-! Cells of a block. -/

theorem cell_of {b o : Nat} {arr : Array Value} {T : TypeId} {fz : Nat × Nat} (h : w.heap[b]? = some (.cells arr T fz)) : w.cell? ⟨b, o, none⟩ = arr[o]? := by
  simp [World.cell?, h]

/-- The cells that a slice or a variable leads to, in the model. -/
theorem cells_at {vs : List Value} {i o k : Nat} {t : TypeId} (h : BR P D β κ i (.cells t vs) w) (hl : o + k ≤ vs.length) :
    ∃ rs, LR D β κ ((vs.drop o).take k) rs ∧ rs.length = k ∧ ∀ (j : Nat) (v : Value), rs[j]? = some v → w.cell? (Addr.add ⟨(β i).1, (β i).2 + o, none⟩ j) = some v := by
  obtain ⟨arr, T, fz, h1, h2⟩ := h
  refine ⟨(arr.toList.drop ((β i).2 + o)).take k, ⟨?_, fun j v v' hv hv' => ?_⟩, ?_, fun j v hv => ?_⟩
  · -- lengths
    have : (β i).2 + o + k ≤ arr.size ∨ k = 0 := by
      by_cases hk : k = 0
      · exact .inr hk
      · obtain ⟨v', hv', _⟩ := h2 (o + (k - 1)) _ (List.getElem?_eq_getElem (show o + (k - 1) < vs.length by omega))
        obtain ⟨hlt, _⟩ := Array.getElem?_eq_some_iff.1 hv'
        exact .inl (by omega)
    rcases this with h | h <;> simp <;> omega
  · rw [List.getElem?_take] at hv hv'
    split at hv
    · rename_i hj
      rw [if_pos hj] at hv'
      simp at hv hv'
      obtain ⟨u, hu, hr⟩ := h2 _ _ hv
      rw [← Nat.add_assoc] at hu
      rw [hu] at hv'
      cases hv'
      exact hr
    · cases hv
  · have : (β i).2 + o + k ≤ arr.size ∨ k = 0 := by
      by_cases hk : k = 0
      · exact .inr hk
      · obtain ⟨v', hv', _⟩ := h2 (o + (k - 1)) _ (List.getElem?_eq_getElem (show o + (k - 1) < vs.length by omega))
        obtain ⟨hlt, _⟩ := Array.getElem?_eq_some_iff.1 hv'
        exact .inl (by omega)
    rcases this with h | h <;> simp <;> omega
  · rw [List.getElem?_take] at hv
    split at hv
    · simp at hv
      have e : (Addr.add ⟨(β i).1, (β i).2 + o, none⟩ j) = ⟨(β i).1, (β i).2 + o + j, none⟩ := by unfold Addr.add; split <;> simp_all
      rw [e, cell_of h1]
      exact hv
    · cases hv

theorem toF_some {h : List Blk} {i : Nat} {b : Blk} (e : h[i]? = some b) : toF h i = b := by simp [toF, List.getD, e]

/-- A load. -/
theorem load_sim {h : List Blk} {t : TypeId} {a a' v : Value} {N : Kp} (hl : cLoad P h t a = some v) (hR : Rel P D β κ base N (toF h) w) (ha : VR D β κ a a') :
    ∃ v', (Instr.loadAt t a').run P w = .ok v' w ∧ VR D β κ v v' := by
  unfold cLoad at hl
  split at hl
  · rename_i i o
    cases ha with
    | ptr _ _ hi =>
    split at hl
    · rename_i t' vs hb
      have hB := hR.blk i
      rw [toF_some hb] at hB
      split at hl
      · rename_i k hagg hsz
        split at hl
        · rename_i hle
          cases hl
          obtain ⟨rs, h1, h2, h3⟩ := cells_at hB hle
          refine ⟨.agg ⟨rs⟩, ?_, .agg _ _ h1.len h1.at_⟩
          have hrun := run_loadCells_list (P := P) (w := w) ⟨(β i).1, (β i).2 + o, none⟩ rs h3
          rw [h2] at hrun
          simp [Instr.loadAt, Instr.sureAddr, loadVar, run_isAgg hagg, run_size hsz, hrun]
        · cases hl
      · rename_i hagg
        obtain ⟨arr, T, fz, h1, h2⟩ := hB
        obtain ⟨v', h3, h4⟩ := h2 o v hl
        refine ⟨v', ?_, h4⟩
        simp [Instr.loadAt, Instr.sureAddr, loadVar, run_isAgg hagg, cell_of h1, h3]
      · cases hl
    · cases hl
  · cases hl

/-- Cells that are read as a row's: in every world with this heap. -/
theorem readCells_sim {h : List Blk} {b b' : Option Addr} {k l c l' c' : Nat} {xs : List Value} {N : Kp} (hr : readCells h b k = some xs) (hR : Rel P D β κ base N (toF h) w)
    (hb : VR D β κ (.slice b l c) (.slice b' l' c')) (hl : l = 0 → k = 0) :
    ∃ rs, LR D β κ xs rs ∧ rs.length = k ∧ (∀ a, b' = some a → ∀ w' : World, w'.heap = w.heap → (loadCells a k).run P w' = .ok rs.toArray w') ∧ (b' = none → k = 0) := by
  unfold readCells at hr
  split at hr
  · rename_i hk
    cases hr
    subst hk
    exact ⟨[], .nil, rfl, fun a _ w' _ => by simp [loadCells, loadCellsFrom], fun _ => rfl⟩
  · rename_i hk
    split at hr
    · rename_i i o
      split at hr
      · rename_i t vs hi
        split at hr
        · rename_i hle
          cases hr
          have hB := hR.blk i
          rw [toF_some hi] at hB
          obtain ⟨rs, h1, h2, h3⟩ := cells_at hB hle
          have hrun : ∀ w' : World, w'.heap = w.heap → (loadCells ⟨(β i).1, (β i).2 + o, none⟩ k).run P w' = .ok rs.toArray w' := fun w' hw => by
            have := run_loadCells_list (P := P) (w := w') ⟨(β i).1, (β i).2 + o, none⟩ rs (fun j v hv => by have := h3 j v hv; simpa [World.cell?, hw] using this)
            rwa [h2] at this
          refine ⟨rs, h1, h2, fun a ha => ?_, fun hn => ?_⟩
          · cases hb with
            | slice => cases ha; exact hrun
            | sliceU => cases ha; exact hrun
            | sliceE => exact absurd (hl rfl) hk
            | sliceZ => exact absurd (hl rfl) hk
            | sliceA => cases ha; exact hrun
            | sliceAN => exact absurd (hl rfl) hk
          · cases hb with
            | slice => cases hn
            | sliceU => cases hn
            | sliceE => exact absurd (hl rfl) hk
            | sliceZ => exact absurd (hl rfl) hk
            | sliceA => cases hn
            | sliceAN => exact absurd (hl rfl) hk
        · cases hr
      · cases hr
    · cases hr
end
end Go.Cl
/- Operations, one by one: parts of values, addresses, slices of slices. -/
namespace Go.Cl
open Go Go.RowKit

section
variable {P : Program} {w : World} {D : Nat → Prop} {β : Nat → Nat × Nat} {κ : Nat → Nat}

theorem add_eq (b o n : Nat) : (Addr.add ⟨b, o, none⟩ n) = ⟨b, o + n, none⟩ := by unfold Addr.add; split <;> simp_all

theorem cInt_sim {v v' : Value} {x : Int} (h : cInt v = some x) (hv : VR D β κ v v') : ∃ k, v = .int k x ∧ v' = .int k x := by
  unfold cInt at h
  split at h
  · cases h; cases hv; exact ⟨_, rfl, rfl⟩
  · cases h

theorem extract_sim {v v' : Value} {ix : Nat} {q : QRes} (h : qExtract v ix = some q) (hv : VR D β κ v v') :
    ∃ x', (Instr.extract v' ix).run P w = .ok x' w ∧ VR D β κ q.val x' ∧ q = { val := q.val } := by
  unfold qExtract at h
  split at h
  · cases hv with
    | tuple l l' hl hl' =>
    unfold qv at h
    cases hx : (⟨l⟩ : Array Value).toList[ix]? with
    | none => rw [hx] at h; cases h
    | some x =>
      rw [hx] at h
      cases h
      have hx' : l[ix]? = some x := hx
      obtain ⟨x', h1, h2⟩ := LR.get ⟨hl, hl'⟩ hx'
      exact ⟨x', by simp [Instr.extract, h1], h2, rfl⟩
  · cases h

/-- A part of a struct or an array. -/
theorem part_sim {t : TypeId} {l l' : List Value} {off : Nat} {x : Value} (h : cPart P t ⟨l⟩ off = some x) (hl : LR D β κ l l') :
    ∃ x', (part t ⟨l'⟩ off).run P w = .ok x' w ∧ VR D β κ x x' := by
  unfold cPart at h
  split at h
  · rename_i n hagg hsz
    cases h
    have := (hl.drop off).take n
    refine ⟨.agg ⟨(l'.drop off).take n⟩, ?_, .agg _ _ this.len this.at_⟩
    simp [part, run_isAgg hagg, run_size hsz, List.extract_toArray, List.extract_eq_take_drop]
  · rename_i hagg
    obtain ⟨x', h1, h2⟩ := hl.get h
    exact ⟨x', by simp [part, run_isAgg hagg, h1], h2⟩
  · cases h

theorem field_sim {t : TypeId} {v v' x : Value} {f : Nat} (h : cField P t v f = some x) (hv : VR D β κ v v') :
    ∃ x', (Instr.field t v' f).run P w = .ok x' w ∧ VR D β κ x x' := by
  unfold cField at h
  split at h
  · rename_i fields cs hu
    cases hv with
    | agg l l' hl hl' =>
    split at h
    · rename_i fd hf
      obtain ⟨x', h1, h2⟩ := part_sim (w := w) h ⟨hl, hl'⟩
      exact ⟨x', by simp [Instr.field, run_und hu, hf, asAgg, h1], h2⟩
    · cases h
  · cases h

theorem index_sim {t : TypeId} {v v' ix ix' x : Value} (h : cIndex P t v ix = some x) (hv : VR D β κ v v') (hi : VR D β κ ix ix') :
    ∃ x', (Instr.index t v' ix').run P w = .ok x' w ∧ VR D β κ x x' := by
  unfold cIndex at h
  split at h
  · cases h
  · rename_i i hint
    obtain ⟨k, rfl, rfl⟩ := cInt_sim hint hi
    split at h
    · rename_i n e cs hu
      cases hv with
      | agg l l' hl hl' =>
      split at h
      · rename_i size hsz
        split at h
        · rename_i hb
          obtain ⟨x', h1, h2⟩ := part_sim (w := w) h ⟨hl, hl'⟩
          exact ⟨x', by simp [Instr.index, asIntOf, run_und hu, hb, run_size hsz, h1], h2⟩
        · cases h
      · cases h
    · rename_i b hu
      cases hv
      split at h
      · rename_i c hc
        split at h
        · rename_i hb
          cases h
          have hlt : i.toNat < b.data.toList.length := (List.getElem?_eq_some_iff.1 hc).1
          have hlt' : i.toNat < b.size := by
            rw [Array.length_toList] at hlt
            exact hlt
          have hget : b[i.toNat]? = some c := by
            rw [getElem?_pos b i.toNat hlt']
            have : b.data.toList[i.toNat] = c := by
              rw [List.getElem?_eq_getElem hlt] at hc
              exact Option.some.inj hc
            exact congrArg some this
          exact ⟨.int .u8 c.toNat, by simp [Instr.index, asIntOf, run_und hu, hb, hget], .int _ _⟩
        · cases h
      · cases h
    · cases h

theorem fieldAddr_sim {t : TypeId} {v v' x : Value} {f : Nat} (h : cFieldAddr P t v f = some x) (hv : VR D β κ v v') :
    ∃ x', (Instr.fieldAt t v' f).run P w = .ok x' w ∧ VR D β κ x x' := by
  unfold cFieldAddr at h
  split at h
  · rename_i fields a hu
    cases hv with
    | ptr i o hi =>
    split at h
    · rename_i fd hf
      split at h
      · rename_i n hsz
        split at h
        · cases h
        · rename_i hn
          cases h
          rw [add_eq]
          refine ⟨.pointer (some ⟨(β i).1, (β i).2 + (o + fd.offset), none⟩), ?_, .ptr i _ hi⟩
          simp [Instr.fieldAt, run_und hu, hf, Instr.sureAddr, fieldPlace, run_size hsz, hn, add_eq, Nat.add_assoc]
      · cases h
    · cases h
  · cases h

theorem indexAddr_sim {t : TypeId} {v v' ix ix' x : Value} (h : cIndexAddr P t v ix = some x) (hv : VR D β κ v v') (hi : VR D β κ ix ix') :
    ∃ x', (Instr.indexAt t v' ix').run P w = .ok x' w ∧ VR D β κ x x' := by
  unfold cIndexAddr at h
  split at h
  · cases h
  · rename_i i hint
    obtain ⟨k, rfl, rfl⟩ := cInt_sim hint hi
    split at h
    · rename_i e a len cap hu
      split at h
      · rename_i size hsz
        split at h
        · rename_i hb
          cases h
          cases hv with
          | slice j o l c hj hlc hc =>
            rw [add_eq]
            refine ⟨.pointer (some ⟨(β j).1, (β j).2 + (o + i.toNat * size), none⟩), ?_, .ptr j _ hj⟩
            simp [Instr.indexAt, asIntOf, run_und hu, hb, run_size hsz, add_eq, Nat.add_assoc]
          | sliceU j o l q hj hq hk =>
            rw [add_eq]
            refine ⟨.pointer (some ⟨(β j).1, (β j).2 + (o + i.toNat * size), none⟩), ?_, .ptr j _ hj⟩
            simp [Instr.indexAt, asIntOf, run_und hu, hb, run_size hsz, add_eq, Nat.add_assoc]
          | sliceA j o l C c hj hC hlc hc =>
            rw [add_eq]
            refine ⟨.pointer (some ⟨(β j).1, (β j).2 + (o + i.toNat * size), none⟩), ?_, .ptr j _ hj⟩
            simp [Instr.indexAt, asIntOf, run_und hu, hb, run_size hsz, add_eq, Nat.add_assoc]
          | sliceE => omega
          | sliceZ => omega
          | sliceAN => omega
        · cases h
      · cases h
    · rename_i n e a hu
      split at h
      · rename_i size hsz
        split at h
        · rename_i hb
          cases h
          cases hv with
          | ptr j o hj =>
            rw [add_eq]
            refine ⟨.pointer (some ⟨(β j).1, (β j).2 + (o + i.toNat * size), none⟩), ?_, .ptr j _ hj⟩
            simp [Instr.indexAt, Instr.sureAddr, asIntOf, run_und hu, hb, run_size hsz, add_eq, Nat.add_assoc]
        · cases h
      · cases h
    · cases h

/-- What is filled into a struct, an array, a slice's new row. -/
theorem fill_sim (place : Nat → Option (Nat × Nat)) : ∀ (ps ps' : List (Nat × Value)) (cs cs' : Array Value) (r : Array Value),
    Instr.fill place cs ps = some r → LR D β κ cs.toList cs'.toList → ps.length = ps'.length →
    (∀ (j : Nat) (p p' : Nat × Value), ps[j]? = some p → ps'[j]? = some p' → p.1 = p'.1 ∧ VR D β κ p.2 p'.2 ∧ okPart p.2 = true) →
    ∃ r', Instr.fill place cs' ps' = some r' ∧ LR D β κ r.toList r'.toList := by
  intro ps
  induction ps with
  | nil =>
    intro ps' cs cs' r h hl hlen _
    cases ps' with
    | nil => simp [Instr.fill] at h; subst h; exact ⟨cs', rfl, hl⟩
    | cons => simp at hlen
  | cons p ps ih =>
    intro ps' cs cs' r h hl hlen hp
    cases ps' with
    | nil => simp at hlen
    | cons p' ps' =>
    obtain ⟨i, v⟩ := p
    obtain ⟨i', v'⟩ := p'
    obtain ⟨h1, h2, h3⟩ := hp 0 _ _ rfl rfl
    simp only at h1 h2 h3
    subst h1
    have hc := h2.cells (fun e => by rw [e] at h3; cases h3)
    have hcs : v.cells.size = v'.cells.size := hc.len
    have hsz : cs.size = cs'.size := hl.len
    simp only [Instr.fill] at h ⊢
    split at h
    · cases h
    · rename_i off size hpl
      split at h
      · cases h
      · rename_i hcond
        rw [hcs, hsz] at hcond
        simp only [if_neg hcond]
        have fold : ∀ (m m' : List Value) (k : Nat) (as as' : Array Value), LR D β κ m m' → LR D β κ as.toList as'.toList →
            LR D β κ ((m.zipIdx k).foldl (fun cs p => cs.setIfInBounds (off + p.2) p.1) as).toList ((m'.zipIdx k).foldl (fun cs p => cs.setIfInBounds (off + p.2) p.1) as').toList := by
          intro m
          induction m with
          | nil => intro m' k as as' hm ha; rw [hm.unnil]; simpa using ha
          | cons x m ihm =>
            intro m' k as as' hm ha
            obtain ⟨x', m'', rfl, hx, hm'⟩ := hm.uncons
            simp only [List.zipIdx_cons, List.foldl_cons]
            exact ihm _ _ _ _ hm' (by simpa using ha.set (off + k) hx)
        refine ih ps' _ _ r h ?_ (by simpa using hlen) (fun j p p' hj hj' => hp (j + 1) p p' (by simpa using hj) (by simpa using hj'))
        have := fold v.cells.toList v'.cells.toList 0 cs cs' hc hl
        simp only [← Array.foldl_toList, Array.toList_zipIdx]
        exact this

theorem flat1_cells {v : Value} (h : flat1 v = true) : v.cells.toList.all leafFlat = true := by
  cases v <;> simpa [flat1, Value.cells] using h

theorem parts_sim {ρ ρ' : Operand → Value} (hρ : ∀ x, VR D β κ (ρ x) (ρ' x)) (parts : Array (Nat × Operand)) (hok : (partsOf ρ parts).all (fun p => okPart p.2) = true) :
    (partsOf ρ parts).length = (partsOf ρ' parts).length ∧ ∀ (j : Nat) (p p' : Nat × Value), (partsOf ρ parts)[j]? = some p → (partsOf ρ' parts)[j]? = some p' → p.1 = p'.1 ∧ VR D β κ p.2 p'.2 ∧ okPart p.2 = true := by
  refine ⟨by simp [partsOf], fun j p p' hp hp' => ?_⟩
  have h3 : okPart p.2 = true := List.all_eq_true.1 hok p (List.mem_of_getElem? hp)
  unfold partsOf at hp hp'
  rw [List.getElem?_map] at hp hp'
  cases hx : parts.toList[j]? with
  | none => rw [hx] at hp; cases hp
  | some x => rw [hx] at hp hp'; cases hp; cases hp'; exact ⟨rfl, hρ _, h3⟩

theorem mapM_size {fields : List Field} {places : List (Nat × Nat)} (h : fields.mapM (fun f => (sizeT P f.type).map fun s => (f.offset, s)) = some places) (w : World) :
    (fields.mapM (m := Sem) (fun f => Prod.mk f.offset <$> sizeOf f.type)).run P w = .ok places w := by
  induction fields generalizing places with
  | nil => simp at h; subst h; simp
  | cons f fs ih =>
    rw [List.mapM_cons] at h
    cases hs : sizeT P f.type with
    | none => rw [hs] at h; simp at h
    | some s =>
      rw [hs] at h
      cases hm : fs.mapM (fun f => (sizeT P f.type).map fun s => (f.offset, s)) with
      | none => rw [hm] at h; simp at h
      | some ps =>
        rw [hm] at h
        simp at h
        subst h
        simp [List.mapM_cons, run_size hs, ih hm]

theorem build_sim {ρ ρ' : Operand → Value} {t : TypeId} {parts : Array (Nat × Operand)} {v : Value} (h : cBuild P t (partsOf ρ parts) = some v) (hρ : ∀ x, VR D β κ (ρ x) (ρ' x)) :
    ∃ v', (Instr.build t (parts.map fun (i, x) => (i, ρ' x))).run P w = .ok v' w ∧ VR D β κ v v' := by
  unfold cBuild at h
  split at h
  · cases h
  · rename_i z hz
    split at h
    · cases h
    · rename_i hc
      simp only [Bool.or_eq_true, Bool.not_eq_true', not_or, Bool.not_eq_false] at hc
      obtain ⟨hzf, hok⟩ := hc
      obtain ⟨hlen, hps⟩ := parts_sim hρ parts hok
      have hzl : LR D β κ z.cells.toList z.cells.toList := .of_leaves (flat1_cells hzf)
      split at h
      · rename_i fields hu
        split at h
        · cases h
        · rename_i places hpl
          split at h
          · rename_i cells hf
            cases h
            obtain ⟨r', h1, h2⟩ := fill_sim _ _ _ _ _ _ hf hzl hlen hps
            refine ⟨.agg r', ?_, .agg _ _ h2.len h2.at_⟩
            have hm := mapM_size hpl w
            unfold partsOf at h1
            simp [Instr.build, run_zero hz, run_und hu, Array.mapM_eq_mapM_toList, hm, h1]
          · cases h
      · rename_i n e hu
        split at h
        · cases h
        · rename_i size hsz
          split at h
          · rename_i cells hf
            cases h
            obtain ⟨r', h1, h2⟩ := fill_sim _ _ _ _ _ _ hf hzl hlen hps
            refine ⟨.agg r', ?_, .agg _ _ h2.len h2.at_⟩
            unfold partsOf at h1
            simp [Instr.build, run_zero hz, run_und hu, run_size hsz, h1]
          · cases h
      · cases h
end
end Go.Cl
/- Operations, one by one: slice expressions, literals of slices, comparisons. -/
namespace Go.Cl
open Go Go.RowKit

section
variable {P : Program} {w : World} {D : Nat → Prop} {β : Nat → Nat × Nat} {κ : Nat → Nat} {base n : Nat} {N : Kp}

/-- Optional operands. -/
def OR (D : Nat → Prop) (β : Nat → Nat × Nat) (κ : Nat → Nat) : Option Value → Option Value → Prop
  | none, none => True
  | some v, some v' => VR D β κ v v'
  | _, _ => False

theorem OR.map {ρ ρ' : Operand → Value} (hρ : ∀ x, VR D β κ (ρ x) (ρ' x)) (x : Option Operand) : OR D β κ (x.map ρ) (x.map ρ') := by
  cases x with
  | none => trivial
  | some x => exact hρ x

theorem bound_sim {v v' : Value} {y : Nat} {m : Nat} (code : BoundsCode) (h : ((cInt v).bind fun x => if 0 ≤ x ∧ x ≤ (y : Int) then some x.toNat else none) = some m) (hv : VR D β κ v v') (w : World) :
    (Instr.sliceBound v' y code).run P w = .ok m w ∧ m ≤ y := by
  cases hi : cInt v with
  | none => rw [hi] at h; cases h
  | some x =>
    obtain ⟨k, rfl, rfl⟩ := cInt_sim hi hv
    rw [hi] at h
    simp only [Option.bind_some] at h
    split at h
    · rename_i hb
      cases h
      refine ⟨?_, by omega⟩
      simp [Instr.sliceBound, asIntOf, hb]
    · cases h

/-- The bounds, over a capacity that both sides know. -/
theorem bounds_sim {b : Bool} {len cap l h m : Nat} {lo hi mx lo' hi' mx' : Option Value} (hb : cBounds len cap lo hi mx = some (l, h, m))
    (h1 : OR D β κ lo lo') (h2 : OR D β κ hi hi') (h3 : OR D β κ mx mx') (w : World) :
    (Instr.sliceBounds b len cap lo' hi' mx').run P w = .ok (l, h, m) w ∧ (hi = none → mx = none → h = len ∧ m = cap) ∧ (mx = none → m = cap) ∧ l ≤ h ∧ m ≤ cap ∧ (len ≤ cap → h ≤ m) := by
  unfold cBounds at hb
  split at hb
  · cases hb
  · rename_i m0 hm
    split at hb
    · cases hb
    · rename_i h0 hh
      split at hb
      · cases hb
      · rename_i l0 hl
        cases hb
        cases mx with
        | none =>
          cases mx' with
          | some _ => exact h3.elim
          | none =>
          simp only [Option.some.injEq] at hm
          subst hm
          cases hi with
          | none =>
            cases hi' with
            | some _ => exact h2.elim
            | none =>
            simp only [Option.some.injEq] at hh
            subst hh
            cases lo with
            | none =>
              cases lo' with
              | some _ => exact h1.elim
              | none =>
              simp only [Option.some.injEq] at hl
              subst hl
              exact ⟨by simp [Instr.sliceBounds], fun _ _ => ⟨rfl, rfl⟩, fun _ => rfl, by omega, Nat.le_refl _, fun h => h⟩
            | some v =>
              cases lo' with
              | none => exact h1.elim
              | some v' =>
              obtain ⟨r, hle⟩ := bound_sim (P := P) .sliceB hl h1 w
              exact ⟨by simp [Instr.sliceBounds, r], fun _ _ => ⟨rfl, rfl⟩, fun _ => rfl, by omega, Nat.le_refl _, fun h => h⟩
          | some u =>
            cases hi' with
            | none => exact h2.elim
            | some u' =>
            obtain ⟨r1, hle1⟩ := bound_sim (P := P) (if b then .sliceAcap else .sliceAlen) hh h2 w
            cases lo with
            | none =>
              cases lo' with
              | some _ => exact h1.elim
              | none =>
              simp only [Option.some.injEq] at hl
              subst hl
              exact ⟨by simp [Instr.sliceBounds, r1], fun h => by simp at h, fun _ => rfl, by omega, Nat.le_refl _, fun _ => hle1⟩
            | some v =>
              cases lo' with
              | none => exact h1.elim
              | some v' =>
              obtain ⟨r, hle⟩ := bound_sim (P := P) .sliceB hl h1 w
              exact ⟨by simp [Instr.sliceBounds, r, r1], fun h => by simp at h, fun _ => rfl, by omega, Nat.le_refl _, fun _ => hle1⟩
        | some x =>
          cases mx' with
          | none => exact h3.elim
          | some x' =>
          obtain ⟨r2, hle2⟩ := bound_sim (P := P) (if b then .slice3Acap else .slice3Alen) hm h3 w
          cases hi with
          | none => simp at hh
          | some u =>
            cases hi' with
            | none => exact h2.elim
            | some u' =>
            obtain ⟨r1, hle1⟩ := bound_sim (P := P) .slice3B hh h2 w
            cases lo with
            | none =>
              cases lo' with
              | some _ => exact h1.elim
              | none =>
              simp only [Option.some.injEq] at hl
              subst hl
              exact ⟨by simp [Instr.sliceBounds, r1, r2], fun h => by simp at h, fun h => by simp at h, by omega, hle2, fun _ => hle1⟩
            | some v =>
              cases lo' with
              | none => exact h1.elim
              | some v' =>
              obtain ⟨r, hle⟩ := bound_sim (P := P) .slice3C hl h1 w
              exact ⟨by simp [Instr.sliceBounds, r, r1, r2], fun h => by simp at h, fun h => by simp at h, by omega, hle2, fun _ => hle1⟩

/-- The same over a capacity that only the model knows: what lies within the length lies within it. -/
theorem bounds_simU {b : Bool} {len cap l h m : Nat} {lo hi mx lo' hi' mx' : Option Value} (hb : cBounds len len lo hi mx = some (l, h, m)) (hcap : len ≤ cap)
    (h1 : OR D β κ lo lo') (h2 : OR D β κ hi hi') (h3 : OR D β κ mx mx') (w : World) :
    (Instr.sliceBounds b len cap lo' hi' mx').run P w = .ok (l, h, if mx.isSome then m else cap) w ∧ l ≤ h ∧ h ≤ len ∧ m ≤ len ∧ h ≤ m := by
  have hb' : cBounds len cap lo hi mx = some (l, h, if mx.isSome then m else cap) ∧ h ≤ len ∧ m ≤ len ∧ h ≤ m := by
    unfold cBounds at hb ⊢
    cases mx with
    | none =>
      simp only [Option.isSome_none] at *
      cases hi with
      | none =>
        simp only at hb ⊢
        split at hb
        · cases hb
        · rename_i l0 hl; cases hb; exact ⟨by simp, Nat.le_refl _, Nat.le_refl _, Nat.le_refl _⟩
      | some u =>
        simp only at hb ⊢
        cases hu : cInt u with
        | none => rw [hu] at hb; simp at hb
        | some x =>
          rw [hu] at hb
          simp only [Option.bind_some] at hb ⊢
          by_cases hx : 0 ≤ x ∧ x ≤ (len : Int)
          · rw [if_pos hx] at hb
            rw [if_pos (show 0 ≤ x ∧ x ≤ (cap : Int) by omega)]
            simp only at hb ⊢
            split at hb
            · cases hb
            · rename_i l0 hl; cases hb; exact ⟨by simp, by omega, Nat.le_refl _, by omega⟩
          · rw [if_neg hx] at hb; simp at hb
    | some y =>
      simp only [Option.isSome_some, if_true] at *
      cases hy : cInt y with
      | none => rw [hy] at hb; simp at hb
      | some z =>
        rw [hy] at hb
        simp only [Option.bind_some] at hb ⊢
        by_cases hz : 0 ≤ z ∧ z ≤ (len : Int)
        · rw [if_pos hz] at hb
          rw [if_pos (show 0 ≤ z ∧ z ≤ (cap : Int) by omega)]
          simp only at hb ⊢
          cases hi with
          | none => simp at hb
          | some u =>
            simp only at hb ⊢
            cases hu : cInt u with
            | none => rw [hu] at hb; simp at hb
            | some x =>
              rw [hu] at hb
              simp only [Option.bind_some] at hb ⊢
              by_cases hx : 0 ≤ x ∧ x ≤ (z.toNat : Int)
              · rw [if_pos hx] at hb ⊢
                simp only at hb ⊢
                split at hb
                · cases hb
                · rename_i l0 hl; cases hb; exact ⟨by simp, by omega, by omega, by omega⟩
              · rw [if_neg hx] at hb; simp at hb
        · rw [if_neg hz] at hb; simp at hb
  obtain ⟨e, a1, a2, a3⟩ := hb'
  obtain ⟨r, _, _, b1, _, _⟩ := bounds_sim (P := P) (b := b) e h1 h2 h3 w
  exact ⟨r, b1, a1, a2, a3⟩

theorem slice_sim {t : TypeId} {v v' x : Value} {lo hi mx lo' hi' mx' : Option Value} (h : cSlice P t v lo hi mx = some x) (hv : VR D β κ v v')
    (h1 : OR D β κ lo lo') (h2 : OR D β κ hi hi') (h3 : OR D β κ mx mx') :
    ∃ x', (Instr.sliceAt t v' lo' hi' mx').run P w = .ok x' w ∧ VR D β κ x x' := by
  unfold cSlice at h
  split at h
  · rename_i e a len cap hu
    split at h
    · cases h
    · rename_i size hsz
      split at h
      · rename_i hc
        split at h
        · rename_i l hh m hb
          cases h
          have go : ∀ a' : Option Addr, v' = .slice a' len cap → (∀ k, VR D β κ (.slice (if m = l then a else a.map (·.add k)) (hh - l) (m - l)) (.slice (if m = l then a' else a'.map (·.add k)) (hh - l) (m - l))) →
              ∃ x', (Instr.sliceAt t v' lo' hi' mx').run P w = .ok x' w ∧ VR D β κ (.slice (if m = l then a else a.map (·.add (l * size))) (hh - l) (m - l)) x' := by
            rintro a' rfl hk
            obtain ⟨r, _⟩ := bounds_sim (P := P) (b := true) hb h1 h2 h3 w
            exact ⟨_, by simp [Instr.sliceAt, Instr.slice, run_und hu, r, run_size hsz], hk _⟩
          have hm : m - l ≤ INF := by
            obtain ⟨_, _, _, _, hm, _⟩ := bounds_sim (P := P) (b := true) hb h1 h2 h3 w
            omega
          cases hv with
          | snil =>
            obtain ⟨_, _, _, b1, b2, b3⟩ := bounds_sim (P := P) (b := true) hb h1 h2 h3 w
            have hh0 : hh - l = 0 := by have := b3 (Nat.le_refl _); omega
            have hm0 : m - l = 0 := by omega
            refine go none rfl fun k => ?_
            rw [hh0, hm0]
            split <;> exact .snil
          | sliceZ i o a' =>
            obtain ⟨_, _, _, b1, b2, b3⟩ := bounds_sim (P := P) (b := true) hb h1 h2 h3 w
            have hh0 : hh - l = 0 := by have := b3 (Nat.le_refl _); omega
            have hm0 : m - l = 0 := by omega
            refine go _ rfl fun k => ?_
            rw [hh0, hm0]
            split
            · exact .sliceZ i o _
            · simp only [Option.map_some, add_eq]; exact .sliceZ i _ _
          | slice i o l' c hi hlc hc =>
            obtain ⟨_, b0, _, b1, b2, b3⟩ := bounds_sim (P := P) (b := true) hb h1 h2 h3 w
            have hhm : hh - l ≤ m - l := by have := b3 hlc; omega
            refine go _ rfl fun k => ?_
            split
            · exact .slice i o _ _ hi hhm hm
            · simp only [Option.map_some, add_eq, Nat.add_assoc]; exact .slice i (o + k) _ _ hi hhm hm
          | sliceU i o l' q hi hq hk => simp only [UNK, INF] at *; omega
          | sliceE i o q a hq => simp only [UNK, INF] at *; omega
          | sliceA i o l' C c hi hC hlc hc' => simp only [UNK, INF] at *; omega
          | sliceAN i o C a hC => simp only [UNK, INF] at *; omega
        · cases h
      · rename_i hc
        split at h
        · rename_i u
          split at h
          · rename_i l hh m hb
            cases h
            cases mx' with
            | none => exact h3.elim
            | some u' =>
            cases hv with
            | snil => exact absurd (Nat.zero_le _) hc
            | sliceZ => exact absurd (Nat.zero_le _) hc
            | slice i o l' c hi _ hc' => exact absurd hc' hc
            | sliceU i o l' q hi hq hk =>
              obtain ⟨r, b1, b2, b3, b4⟩ := bounds_simU (P := P) (b := true) (cap := κ i - q) hb (by omega) h1 h2 h3 w
              simp only [Option.isSome_some, if_true] at r
              refine ⟨.slice (if m = l then some ⟨(β i).1, (β i).2 + o, none⟩ else some ⟨(β i).1, (β i).2 + (o + l * size), none⟩) (hh - l) (m - l), ?_, ?_⟩
              · simp [Instr.sliceAt, Instr.slice, run_und hu, r, run_size hsz, add_eq, Nat.add_assoc]
              · have hm : m - l ≤ INF := by simp only [INF] at *; omega
                split
                · exact .slice i o _ _ hi (by omega) hm
                · simp only [Option.map_some, add_eq]; exact .slice i _ _ _ hi (by omega) hm
            | sliceE i o q a hq =>
              obtain ⟨r, b1, b2, b3, b4⟩ := bounds_simU (P := P) (b := true) (cap := 0) hb (by omega) h1 h2 h3 w
              simp only [Option.isSome_some, if_true] at r
              have hl0 : l = 0 := by omega
              have hh0 : hh = 0 := by omega
              have hm0 : m = 0 := by omega
              subst hl0 hh0 hm0
              refine ⟨.slice a 0 0, ?_, ?_⟩
              · simp [Instr.sliceAt, Instr.slice, run_und hu, r, run_size hsz]
              · simp only [if_true, Nat.sub_zero]; exact .sliceZ i o a
            | sliceA i o l' C c hi hC hlc hc' =>
              obtain ⟨r, b1, b2, b3, b4⟩ := bounds_simU (P := P) (b := true) (cap := c) hb (by omega) h1 h2 h3 w
              simp only [Option.isSome_some, if_true] at r
              refine ⟨.slice (if m = l then some ⟨(β i).1, (β i).2 + o, none⟩ else some ⟨(β i).1, (β i).2 + (o + l * size), none⟩) (hh - l) (m - l), ?_, ?_⟩
              · simp [Instr.sliceAt, Instr.slice, run_und hu, r, run_size hsz, add_eq, Nat.add_assoc]
              · have hm : m - l ≤ INF := by simp only [INF] at *; omega
                split
                · exact .slice i o _ _ hi (by omega) hm
                · simp only [Option.map_some, add_eq]; exact .slice i _ _ _ hi (by omega) hm
            | sliceAN i o C a hC =>
              obtain ⟨r, b1, b2, b3, b4⟩ := bounds_simU (P := P) (b := true) (cap := 0) hb (by omega) h1 h2 h3 w
              simp only [Option.isSome_some, if_true] at r
              have hl0 : l = 0 := by omega
              have hh0 : hh = 0 := by omega
              have hm0 : m = 0 := by omega
              subst hl0 hh0 hm0
              refine ⟨.slice a 0 0, ?_, ?_⟩
              · simp [Instr.sliceAt, Instr.slice, run_und hu, r, run_size hsz]
              · simp only [if_true, Nat.sub_zero]
                exact .sliceZ i o a
          · cases h
        · split at h
          · rename_i l hh m hb
            cases h
            cases mx' with
            | some u' => exact h3.elim
            | none =>
            cases hv with
            | snil => exact absurd (Nat.zero_le _) hc
            | sliceZ => exact absurd (Nat.zero_le _) hc
            | slice i o l' c hi _ hc' => exact absurd hc' hc
            | sliceU i o l' q hi hq hk =>
              obtain ⟨r, b1, b2, b3, b4⟩ := bounds_simU (P := P) (b := true) (cap := κ i - q) hb (by omega) h1 h2 h3 w
              simp only [Option.isSome_none] at r
              refine ⟨.slice (if κ i - q = l then some ⟨(β i).1, (β i).2 + o, none⟩ else some ⟨(β i).1, (β i).2 + (o + l * size), none⟩) (hh - l) (κ i - q - l), ?_, ?_⟩
              · simp [Instr.sliceAt, Instr.slice, run_und hu, r, run_size hsz, add_eq, Nat.add_assoc]
              · have e1 : (if UNK < UNK - q then UNK - q else UNK - q - l) = UNK - (q + l) := by rw [if_neg (by omega)]; omega
                have e2 : κ i - q - l = κ i - (q + l) := by omega
                simp only [Option.map_some, add_eq, e1]
                split
                · rename_i he
                  have z1 : hh - l = 0 := by omega
                  have z2 : κ i - q - l = 0 := by omega
                  rw [z1, z2]
                  exact .sliceE i _ _ _ (by omega)
                · rw [e2]
                  exact .sliceU i _ _ _ hi (by omega) hk
            | sliceE i o q a hq =>
              obtain ⟨r, b1, b2, b3, b4⟩ := bounds_simU (P := P) (b := true) (cap := 0) hb (by omega) h1 h2 h3 w
              simp only [Option.isSome_none] at r
              have hl0 : l = 0 := by omega
              have hh0 : hh = 0 := by omega
              subst hl0 hh0
              refine ⟨.slice a 0 0, ?_, ?_⟩
              · simp [Instr.sliceAt, Instr.slice, run_und hu, r, run_size hsz]
              · simp only [Option.map_some, add_eq, Nat.sub_zero]; rw [ite_self]; exact .sliceE i _ _ _ hq
            | sliceA i o l' C c hi hC hlc hc' =>
              obtain ⟨r, b1, b2, b3, b4⟩ := bounds_simU (P := P) (b := true) (cap := c) hb (by omega) h1 h2 h3 w
              simp only [Option.isSome_none] at r
              refine ⟨.slice (if c = l then some ⟨(β i).1, (β i).2 + o, none⟩ else some ⟨(β i).1, (β i).2 + (o + l * size), none⟩) (hh - l) (c - l), ?_, ?_⟩
              · simp [Instr.sliceAt, Instr.slice, run_und hu, r, run_size hsz, add_eq, Nat.add_assoc]
              · rw [if_pos hC]
                simp only [Option.map_some, add_eq]
                split
                · rename_i he
                  have z1 : hh - l = 0 := by omega
                  have z2 : c - l = 0 := by omega
                  rw [z1, z2]
                  exact .sliceAN i _ _ _ hC
                · exact .sliceA i _ _ _ _ hi hC (by omega) (by omega)
            | sliceAN i o C a hC =>
              obtain ⟨r, b1, b2, b3, b4⟩ := bounds_simU (P := P) (b := true) (cap := 0) hb (by omega) h1 h2 h3 w
              simp only [Option.isSome_none] at r
              have hl0 : l = 0 := by omega
              have hh0 : hh = 0 := by omega
              subst hl0 hh0
              refine ⟨.slice a 0 0, ?_, ?_⟩
              · simp [Instr.sliceAt, Instr.slice, run_und hu, r, run_size hsz]
              · rw [if_pos hC]; simp only [Option.map_some, add_eq, Nat.sub_zero]; exact .sliceAN i _ _ _ hC
          · cases h
  · rename_i k e a hu
    split at h
    · rename_i size l hh m hsz hb
      split at h
      · rename_i hk
        cases h
        cases hv with
        | ptr i o hi =>
        obtain ⟨r, _, _, _, hm, b3⟩ := bounds_sim (P := P) (b := false) hb h1 h2 h3 w
        have hhm := b3 (Nat.le_refl _)
        refine ⟨.slice (if m = l then some ⟨(β i).1, (β i).2 + o, none⟩ else some ⟨(β i).1, (β i).2 + (o + l * size), none⟩) (hh - l) (m - l), ?_, ?_⟩
        · simp only [Instr.sliceAt, Sem.run_bind, run_und hu, Result.andThen_ok, Instr.sureAddr, r, run_size hsz, Sem.run_pure, add_eq, Nat.add_assoc]
          split <;> rfl
        · split
          · exact .slice i o _ _ hi (by omega) (by omega)
          · simp only [add_eq]; exact .slice i _ _ _ hi (by omega) (by omega)
      · cases h
    · cases h
  · cases h

/-- A literal of a slice. -/
theorem buildSlice_sim {ρ ρ' : Operand → Value} {t : TypeId} {len : Nat} {parts : Array (Nat × Operand)} {q : QRes} (h : cBuildSlice P n t len (partsOf ρ parts) = some q) (hρ : ∀ x, VR D β κ (ρ x) (ρ' x))
    (hN : N.upto w.heap.size) (hn : ∀ i, D i → i ≠ n) :
    ∃ v' w' β' κ', (Instr.buildSlice t len (parts.map fun (i, x) => (i, ρ' x))).run P w = .ok v' w' ∧ QOut P D β κ base N n w q v' w' β' κ' := by
  unfold cBuildSlice at h
  split at h
  · rename_i e hu
    split at h
    · cases h
    · rename_i size hsz
      split at h
      · cases h
      · rename_i hbig
        split at h
        · cases h
        · rename_i zero hz
          split at h
          · cases h
          · rename_i hc
            simp only [Bool.or_eq_true, Bool.not_eq_true', not_or, Bool.not_eq_false] at hc
            obtain ⟨hzf, hok⟩ := hc
            obtain ⟨hlen, hps⟩ := parts_sim hρ parts hok
            split at h
            · rename_i cells hf
              cases h
              have hle : len ≤ INF := by
                have hI : INF = 9223372036854775808 := rfl
                have : len * 1 ≤ len * size := Nat.mul_le_mul_left _ (by omega)
                omega
              have hrow : LR D β κ ((Array.range (len * size)).map (zero[· % zero.size]!)).toList ((Array.range (len * size)).map (zero[· % zero.size]!)).toList := by
                refine .of_leaves ?_
                rw [List.all_eq_true]
                intro x hx
                simp only [Array.toList_map, List.mem_map] at hx
                obtain ⟨j, _, rfl⟩ := hx
                by_cases hj : j % zero.size < zero.size
                · rw [getElem!_pos zero _ hj]
                  exact List.all_eq_true.1 hzf _ (by simp)
                · rw [getElem!_neg zero _ hj]; rfl
              obtain ⟨r', h1, h2⟩ := fill_sim _ _ _ _ _ _ hf hrow hlen hps
              unfold partsOf at h1
              obtain ⟨β', κ', hq⟩ := QOut.cells (P := P) (base := base) (t := e) (v := .slice (some ⟨n, 0, none⟩) len len) (v' := .slice (some ⟨w.heap.size, 0, none⟩) len len) hN hn h2
                (fun β' κ' hβ _ => vr_newslice len len (Nat.le_refl _) hle hβ)
              refine ⟨_, _, β', κ', ?_, hq⟩
              have hbig' : ¬ len * size > 2 ^ 24 := fun h => hbig (.inl h)
              by_cases h0 : len * size = 0
              · rw [if_pos h0] at hz
                cases hz
                simp [Instr.buildSlice, run_und hu, run_size hsz, h0] at h1 ⊢
                simp [h1, newRow]
              · rw [if_neg h0] at hz
                cases hzt : zeroT P e with
                | none => rw [hzt] at hz; cases hz
                | some z =>
                  rw [hzt] at hz
                  cases hz
                  simp only [Instr.buildSlice, Sem.run_bind, run_und hu, Result.andThen_ok, run_size hsz, if_neg hbig', if_neg h0, run_zero hzt, Sem.run_pure]
                  simp [h1, newRow]
            · cases h
  · cases h
end
end Go.Cl
/- Operations, one by one: stores, comparisons, arithmetic. -/
namespace Go.Cl
open Go Go.RowKit

section
variable {P : Program} {w : World} {D : Nat → Prop} {β : Nat → Nat × Nat} {κ : Nat → Nat} {base n : Nat} {N : Kp}

theorem held_setRow {g : Nat} {w0 w : World} (hb : Held N w0 w) (hg : N.free g) (cs : Array Value) : Held N w0 (w.setRow g cs) := by
  have h1 := below_setRow (B := 0) (Below.refl 0 w) (Nat.zero_le g) cs
  exact hb.trans ⟨h1.os, h1.tape, h1.output, h1.size, fun k hk => setRow_other w g k cs (Kp.ne hk hg)⟩

theorem oneCell_of {v v' : Value} (h : VR D β κ v v') (hc : cellOk v = true) : v'.oneCell' = true := by
  cases h <;> simp_all [cellOk, Value.oneCell']

theorem not_inNew_zero {i : Nat} : ¬ InNew n 0 i := by unfold InNew; omega

/-- Cells written into a block of the call's own. -/
theorem storeAt_sim {h : List Blk} {i o : Nat} {xs xs' : List Value} {u : Option (Nat × Blk)} (hs : cStoreAt base h ⟨i, o, none⟩ xs = some u)
    (hR : Rel P D β κ base N (toF h) w) (hx : LR D β κ xs xs') (hn : h.length ≤ n) :
    ∃ w', (storeCells ⟨(β i).1, (β i).2 + o, none⟩ xs').run P w = .ok () w' ∧ ∀ v v', VR D β κ v v' → QOut P D β κ base N n w { val := v, upd := u } v' w' β κ := by
  unfold cStoreAt at hs
  simp only [Option.isSome_none, Bool.false_eq_true, if_false] at hs
  split at hs
  · rename_i he
    cases hs
    have : xs = [] := by simpa using he
    subst this
    rw [hx.unnil]
    exact ⟨w, by simp [storeCells], fun v v' hv => QOut.same hv⟩
  · split at hs
    · rename_i t vs hi
      split at hs
      · rename_i hc
        obtain ⟨hb, hl, hok⟩ := hc
        cases hs
        have hB := hR.blk i
        obtain ⟨hNi, hO⟩ := hR.own i (by rw [toF_some hi]; simp) hb
        rw [toF_some hi] at hB hO
        obtain ⟨arr, T, hg, hroom⟩ := hO
        obtain ⟨arr2, T2, fz2, hg2, hcells⟩ := hB
        rw [hg] at hg2
        cases hg2
        have hil : i < h.length := (List.getElem?_eq_some_iff.1 hi).1
        have hfit : (β i).2 + o + 0 + xs'.length ≤ arr.size := by
          rw [← hx.len]
          by_cases h0 : xs.length = 0
          · -- nothing is written
            have : xs = [] := List.length_eq_zero_iff.1 h0
            simp_all
          · obtain ⟨v', hv', _⟩ := hcells (o + xs.length - 1) _ (List.getElem?_eq_getElem (show o + xs.length - 1 < vs.length by omega))
            obtain ⟨hlt, _⟩ := Array.getElem?_eq_some_iff.1 hv'
            omega
        have hone : ∀ v ∈ xs', v.oneCell' = true := fun v hv => by
          obtain ⟨j, hj⟩ := List.mem_iff_getElem?.1 hv
          have hj' : j < xs.length := by rw [hx.len]; exact (List.getElem?_eq_some_iff.1 hj).1
          exact oneCell_of (hx.at_ j _ _ (List.getElem?_eq_getElem hj') hj) (List.all_eq_true.1 hok _ (List.getElem_mem hj'))
        have hrun := run_storeCells_at P (β i).1 ((β i).2 + o) T xs' 0 arr w hg hfit hone
        simp only [Nat.add_zero] at hrun hfit
        refine ⟨_, hrun, fun v v' hv => ?_⟩
        have hnew := setRow_heap w (β i).1 arr (arr.toList.take ((β i).2 + o) ++ xs' ++ arr.toList.drop ((β i).2 + o + xs'.length)).toArray T (0, 0) hg
        exact {
          ext := fun _ _ => ⟨rfl, rfl⟩
          val := hv.mono (fun _ h => .inl h) Ext.refl
          below := held_setRow (Held.refl _ _) hNi _
          keep := fun B _ hu => setRow_other w _ _ _ (hu i _ rfl)
          new := fun j b h => by simp at h
          inj := fun i j b c h => by simp at h
          upd := fun k b hkb => by
            simp only [Option.some.injEq, Prod.mk.injEq] at hkb
            obtain ⟨rfl, rfl⟩ := hkb
            refine ⟨hb, by omega, ⟨_, T, (0, 0), hnew, fun k x hk => ?_⟩, ⟨_, T, hnew, fun s hs => ?_⟩⟩
            · have up : ∀ (z : Value) (z' : Value), VR D β κ z z' → VR (fun i => D i ∨ InNew n ([] : List Blk).length i) β κ z z' := fun z z' hz => hz.mono (fun _ h => .inl h) Ext.refl
              have la : (arr.toList.take ((β i).2 + o)).length = (β i).2 + o := by simp; omega
              have lb : (vs.take o).length = o := by simp; omega
              simp only [List.getElem?_toArray]
              rw [List.append_assoc] at hk ⊢
              rw [List.getElem?_append, lb] at hk
              rw [List.getElem?_append, la]
              split at hk
              · rename_i hko
                rw [if_pos (by omega)]
                rw [List.getElem?_take, if_pos hko] at hk
                obtain ⟨v', h1, h2⟩ := hcells k x hk
                exact ⟨v', by rw [List.getElem?_take, if_pos (by omega)]; simpa using h1, up _ _ h2⟩
              · rename_i hko
                rw [if_neg (by omega)]
                have e1 : (β i).2 + k - ((β i).2 + o) = k - o := by omega
                rw [e1, List.getElem?_append]
                rw [List.getElem?_append] at hk
                rw [← hx.len]
                split at hk
                · rename_i hk2
                  rw [if_pos hk2]
                  obtain ⟨v', h1, h2⟩ := hx.get hk
                  exact ⟨v', h1, up _ _ h2⟩
                · rename_i hk2
                  rw [if_neg hk2]
                  rw [List.getElem?_drop] at hk ⊢
                  have e2 : o + xs.length + (k - o - xs.length) = k := by omega
                  rw [e2] at hk
                  obtain ⟨v', h1, h2⟩ := hcells k x hk
                  refine ⟨v', ?_, up _ _ h2⟩
                  have e3 : (β i).2 + o + xs.length + (k - o - xs.length) = (β i).2 + k := by omega
                  rw [e3]
                  simpa using h1
            · have := hroom s hs
              simp only [List.size_toArray, List.length_append, List.length_take, List.length_drop, Array.length_toList]
              omega }
      · cases hs
    · cases hs

theorem store_sim {h : List Blk} {t : TypeId} {a a' x x' : Value} {q : QRes} (hs : cStore P base h t a x = some q) (hR : Rel P D β κ base N (toF h) w)
    (ha : VR D β κ a a') (hx : VR D β κ x x') (hn : h.length ≤ n) :
    ∃ w', (Instr.storeAt t a' x').run P w = .ok () w' ∧ QOut P D β κ base N n w q undef w' β κ := by
  unfold cStore at hs
  split at hs
  · rename_i a s hsz
    split at hs
    · rename_i hc
      cases ha with
      | ptr i o hi =>
      obtain ⟨hc, hop⟩ := hc
      have hp : x ≠ .chan (some 0) := fun e => by rw [e] at hop; cases hop
      · have hxc := hx.cells hp
        cases hst : cStoreAt base h ⟨i, o, none⟩ x.cells.toList with
        | none => rw [hst] at hs; cases hs
        | some u =>
          rw [hst] at hs
          cases hs
          obtain ⟨w', h1, h2⟩ := storeAt_sim hst hR hxc hn
          refine ⟨w', ?_, h2 _ _ VR.undef⟩
          have hsize : x'.cells.size = s := by
            have := hxc.len
            simp only [Array.length_toList] at this
            omega
          simp [Instr.storeAt, Instr.sureAddr, storeVar, run_size hsz, hsize, h1]
    · cases hs
  · cases hs

/-! ### Comparisons of keys -/

theorem beq_kind {q q' : IntKind} (h : (q == q') = true) : q = q' := by cases q <;> cases q' <;> first | rfl | cases h

theorem leaf_equal {d : Nat} {t : TypeId} {a b : Value} (ht : isPlainKey (P.underlying t) = true) (ha : fitLeaf (P.underlying t) a = true) (hb : fitLeaf (P.underlying t) b = true) (w : World) :
    (Op.equalIn (d + 1) t a b).run P w = .ok (eqLeaf a b) w := by
  cases hu : P.underlying t with
  | none => rw [hu] at ht; cases ht
  | some dd =>
    rw [hu] at ht ha hb
    cases dd with
    | bool =>
      cases a <;> simp [fitLeaf] at ha
      cases b <;> simp [fitLeaf] at hb
      simp [Op.equalIn, run_und hu, eqLeaf]
    | int q =>
      cases a <;> simp [fitLeaf] at ha
      cases b <;> simp [fitLeaf] at hb
      have e1 := beq_kind (show (q == _) = true by simpa using ha)
      have e2 := beq_kind (show (q == _) = true by simpa using hb)
      subst e1 e2
      simp [Op.equalIn, run_und hu, eqLeaf]
    | _ => simp [isPlainKey] at ht

theorem plainKey_agg {t : TypeId} (ht : isPlainKey (P.underlying t) = true) : aggT P t = some false := by
  unfold aggT
  cases hu : P.underlying t with
  | none => rw [hu] at ht; cases ht
  | some d => rw [hu] at ht; cases d <;> simp_all [isPlainKey]

/-- A field's test, as `keyT` has it. -/
def fieldOk (P : Program) (f : Field) (i : Nat) : Bool := f.name != "_" && f.offset == i && sizeT P f.type == some 1 && isPlainKey (P.underlying f.type)

theorem fieldOk_spec {f : Field} {i : Nat} (h : fieldOk P f i = true) : f.name ≠ "_" ∧ f.offset = i ∧ isPlainKey (P.underlying f.type) = true := by
  simp only [fieldOk, Bool.and_eq_true, bne_iff_ne, beq_iff_eq] at h
  exact ⟨h.1.1.1, h.1.1.2, h.2⟩

theorem part_leaf {t : TypeId} {l : List Value} {k : Nat} {v : Value} (ht : isPlainKey (P.underlying t) = true) (h : l[k]? = some v) (w : World) : (part t ⟨l⟩ k).run P w = .ok v w := by
  simp [part, run_isAgg (plainKey_agg ht), h]

theorem drop_cons {l : List Value} {k : Nat} {v : Value} {r : List Value} (h : l.drop k = v :: r) : l[k]? = some v ∧ l.drop (k + 1) = r := by
  constructor
  · have := congrArg (fun x => x[0]?) h
    simpa using this
  · have := congrArg List.tail h
    simpa [List.tail_drop] using this

theorem fit_cons {f : Field} {fs : List Field} {l : List Value} {k : Nat} (h : fitLeaves P (f :: fs) (l.drop k) = true) :
    ∃ v, l[k]? = some v ∧ fitLeaf (P.underlying f.type) v = true ∧ fitLeaves P fs (l.drop (k + 1)) = true ∧ l.drop k = v :: l.drop (k + 1) := by
  cases hd : l.drop k with
  | nil => rw [hd] at h; cases h
  | cons v r =>
    rw [hd] at h
    obtain ⟨h1, h2⟩ := drop_cons hd
    simp only [fitLeaves, Bool.and_eq_true] at h
    exact ⟨v, h1, h.1, by rw [h2]; exact h.2, by rw [h2]⟩

theorem eq_loop {d : Nat} {L M : List Value} (w : World) : ∀ (fs : List Field) (k : Nat), (fs.zipIdx k).all (fun p => fieldOk P p.1 p.2) = true → fitLeaves P fs (L.drop k) = true → fitLeaves P fs (M.drop k) = true →
    (forIn fs ((none, ()) : Option Bool × Unit) fun f _ =>
            if f.name = "_" then pure (ForInStep.yield (none, ()))
            else do
              let __do_lift ← part f.type ⟨L⟩ f.offset
              let __do_lift_1 ← part f.type ⟨M⟩ f.offset
              let __do_lift ← Op.equalIn (d + 1) f.type __do_lift __do_lift_1
              if __do_lift = false then pure (ForInStep.done (some false, ())) else pure (ForInStep.yield (none, ())) : Sem (Option Bool × Unit)).run P w =
      .ok (if eqLeaves (L.drop k) (M.drop k) then (none, ()) else (some false, ())) w := by
  intro fs
  induction fs with
  | nil =>
    intro k _ h1 h2
    have e1 : L.drop k = [] := by cases hd : L.drop k with | nil => rfl | cons v r => rw [hd] at h1; cases h1
    have e2 : M.drop k = [] := by cases hd : M.drop k with | nil => rfl | cons v r => rw [hd] at h2; cases h2
    simp [e1, e2, eqLeaves]
  | cons f fs ih =>
    intro k hf h1 h2
    simp only [List.zipIdx_cons, List.all_cons, Bool.and_eq_true] at hf
    obtain ⟨g1, g2, g3⟩ := fieldOk_spec hf.1
    obtain ⟨v, a1, a2, a3, a4⟩ := fit_cons h1
    obtain ⟨u, b1, b2, b3, b4⟩ := fit_cons h2
    rw [List.forIn_cons]
    simp only [g1, if_false, g2, Sem.run_bind, part_leaf g3 a1, part_leaf g3 b1, Result.andThen_ok, leaf_equal g3 a2 b2]
    rw [a4, b4]
    simp only [eqLeaves]
    by_cases he : eqLeaf v u = true
    · have := ih (k + 1) hf.2 a3 b3
      simp [he, this]
    · simp only [Bool.not_eq_true] at he
      simp [he]

theorem check_loop {d : Nat} {e : Bool} {L : List Value} (w : World) : ∀ (fs : List Field) (k : Nat), (fs.zipIdx k).all (fun p => fieldOk P p.1 p.2) = true → fitLeaves P fs (L.drop k) = true →
    (forIn fs PUnit.unit fun f _ =>
            if f.name = "_" then pure (ForInStep.yield PUnit.unit)
            else do
              let __do_lift ← part f.type ⟨L⟩ f.offset
              (fun _ => ForInStep.yield PUnit.unit) <$> Instr.checkKey e (d + 1) f.type __do_lift : Sem PUnit).run P w = .ok () w := by
  intro fs
  induction fs with
  | nil => intro k _ _; simp
  | cons f fs ih =>
    intro k hf h1
    simp only [List.zipIdx_cons, List.all_cons, Bool.and_eq_true] at hf
    obtain ⟨g1, g2, g3⟩ := fieldOk_spec hf.1
    obtain ⟨v, a1, a2, a3, a4⟩ := fit_cons h1
    rw [List.forIn_cons]
    have hc : (Instr.checkKey e (d + 1) f.type v).run P w = .ok () w := by
      cases hu : P.underlying f.type with
      | none => rw [hu] at g3; cases g3
      | some dd =>
        rw [hu] at g3 a2
        cases dd <;> simp [isPlainKey] at g3 <;> cases v <;> simp [fitLeaf] at a2 <;> simp [Instr.checkKey, run_und hu]
    have := ih (k + 1) hf.2 a3
    simp only [g1, if_false, g2, Sem.run_bind, part_leaf g3 a1, Result.andThen_ok, Sem.run_map, hc]
    exact this

theorem keyT_spec {kt : TypeId} (h : keyT P kt = true) : isPlainKey (P.underlying kt) = true ∨ ∃ fields, P.underlying kt = some (.struct fields) ∧ P.stoodInHeld kt = false ∧ (fields.toList.zipIdx 0).all (fun p => fieldOk P p.1 p.2) = true := by
  unfold keyT at h
  split at h
  · rename_i fields hu
    simp only [Bool.and_eq_true, Bool.not_eq_true'] at h
    exact .inr ⟨fields, hu, h.1, h.2⟩
  · exact .inl h

theorem fits_struct {kt : TypeId} {fields : Array Field} {k : Value} (hu : P.underlying kt = some (.struct fields)) (h : keyFits P kt k = true) : ∃ l, k = .agg ⟨l⟩ ∧ fitLeaves P fields.toList l = true := by
  unfold keyFits at h
  rw [hu] at h
  cases k with
  | agg cs => obtain ⟨l⟩ := cs; exact ⟨l, rfl, h⟩
  | _ => simp at h
theorem fits_leaf {kt : TypeId} {k : Value} (hp : isPlainKey (P.underlying kt) = true) (h : keyFits P kt k = true) : fitLeaf (P.underlying kt) k = true ∧ ∀ cs, k ≠ .agg cs := by
  unfold keyFits at h
  cases hu : P.underlying kt with
  | none => rw [hu] at hp; cases hp
  | some d =>
    rw [hu] at hp h
    cases d <;> simp [isPlainKey] at hp <;> cases k <;> simp_all [fitLeaf]

theorem eqKey_leaf {a b : Value} (ha : ∀ cs, a ≠ .agg cs) : eqKey a b = eqLeaf a b := by
  unfold eqKey
  split
  · exact absurd rfl (ha _)
  · rfl

theorem equal_struct {d : Nat} {t : TypeId} {fields : Array Field} {xs ys : Array Value} (hu : P.underlying t = some (.struct fields)) (hs : P.stoodInHeld t = false) (w : World) :
    (Op.equalIn (d + 1) t (.agg xs) (.agg ys)).run P w = ((forIn fields ((none, ()) : Option Bool × Unit) fun f _ =>
            if f.name = "_" then pure (ForInStep.yield (none, ()))
            else do
              let __do_lift ← part f.type xs f.offset
              let __do_lift_1 ← part f.type ys f.offset
              let __do_lift ← Op.equalIn d f.type __do_lift __do_lift_1
              if __do_lift = false then pure (ForInStep.done (some false, ())) else pure (ForInStep.yield (none, ())) : Sem (Option Bool × Unit)).run P w).andThen fun a w' => .ok (a.1.getD true) w' := by
  simp only [Op.equalIn, Sem.run_bind, run_und hu, Result.andThen_ok, run_program, hs]
  simp
  congr 1
  funext a w'
  cases a.fst <;> simp

theorem check_struct {d : Nat} {e : Bool} {t : TypeId} {fields : Array Field} {xs : Array Value} (hu : P.underlying t = some (.struct fields)) (w : World) :
    (Instr.checkKey e (d + 1) t (.agg xs)).run P w = ((forIn fields PUnit.unit fun f _ =>
            if f.name = "_" then pure (ForInStep.yield PUnit.unit)
            else do
              let __do_lift ← part f.type xs f.offset
              (fun _ => ForInStep.yield PUnit.unit) <$> Instr.checkKey e d f.type __do_lift : Sem PUnit).run P w).andThen fun _ w' => .ok () w' := by
  simp only [Instr.checkKey, Sem.run_bind, run_und hu, Result.andThen_ok]
  simp

/-- Keys are compared as `eqKey` says. -/
theorem key_equal {d : Nat} {kt : TypeId} {a b : Value} (hk : keyT P kt = true) (ha : keyFits P kt a = true) (hb : keyFits P kt b = true) (w : World) :
    (Op.equalIn (d + 2) kt a b).run P w = .ok (eqKey a b) w := by
  rcases keyT_spec hk with hp | ⟨fields, hu, hst, hf⟩
  · obtain ⟨a1, a2⟩ := fits_leaf hp ha
    obtain ⟨b1, _⟩ := fits_leaf hp hb
    rw [eqKey_leaf a2]
    exact leaf_equal hp a1 b1 w
  · obtain ⟨l, rfl, h1⟩ := fits_struct hu ha
    obtain ⟨m, rfl, h2⟩ := fits_struct hu hb
    have := eq_loop (d := d) (L := l) (M := m) w fields.toList 0 hf (by simpa using h1) (by simpa using h2)
    simp only [List.drop_zero, Array.forIn_toList] at this
    rw [equal_struct hu hst, this]
    simp only [Result.andThen_ok, eqKey]
    by_cases he : eqLeaves l m = true
    · simp [he]
    · simp only [Bool.not_eq_true] at he; simp [he]

theorem key_check {d : Nat} {e : Bool} {kt : TypeId} {a : Value} (hk : keyT P kt = true) (ha : keyFits P kt a = true) (w : World) :
    (Instr.checkKey e (d + 2) kt a).run P w = .ok () w := by
  rcases keyT_spec hk with hp | ⟨fields, hu, hst, hf⟩
  · obtain ⟨a1, a2⟩ := fits_leaf hp ha
    cases hu : P.underlying kt with
    | none => rw [hu] at hp; cases hp
    | some dd =>
      rw [hu] at hp a1
      cases dd <;> simp [isPlainKey] at hp <;> cases a <;> simp [fitLeaf] at a1 <;> simp [Instr.checkKey, run_und hu]
  · obtain ⟨l, rfl, h1⟩ := fits_struct hu ha
    have := check_loop (d := d) (e := e) (L := l) w fields.toList 0 hf (by simpa using h1)
    simp only [Array.forIn_toList] at this
    rw [check_struct hu, this]
    rfl

/-! The guard ahead of `==`: keys hold no interface. -/

theorem guard_type {d : Nat} {t : TypeId} (hk : keyT P t = true) : P.eqGuardType (d + 2) t = false := by
  rcases keyT_spec hk with hp | ⟨fields, hu, _, hf⟩
  · unfold Program.eqGuardType
    cases hu : P.underlying t with
    | none => rfl
    | some dd => rw [hu] at hp; cases dd <;> simp_all [isPlainKey]
  · unfold Program.eqGuardType
    rw [hu]
    simp only
    rw [← Array.any_toList, List.any_eq_false]
    intro f hfm
    obtain ⟨i, hi⟩ := List.mem_iff_getElem?.1 hfm
    have : (f, i) ∈ fields.toList.zipIdx 0 := by
      rw [List.mem_iff_getElem?]
      exact ⟨i, by simp [List.getElem?_zipIdx, hi]⟩
    obtain ⟨_, _, g3⟩ := fieldOk_spec (List.all_eq_true.1 hf _ this)
    have : P.eqGuardType (d + 1) f.type = false := by
      unfold Program.eqGuardType
      cases hu : P.underlying f.type with
      | none => rfl
      | some dd => rw [hu] at g3; cases dd <;> simp_all [isPlainKey]
    simp [this]

theorem cmpKeys_sim {op : BinOp} {t : TypeId} {x y : Operand} {a b v : Value} (h : cmpKeys P op t a b = some v) (w : World) (hab : (∃ p q, a = .bool p ∧ b = .bool q) ∨ ∃ p q, a = .agg p ∧ b = .agg q) :
    (do eqGuard op t x y a b; binOp op t a b).run P w = .ok v w := by
  unfold cmpKeys at h
  split at h
  · rename_i hc
    obtain ⟨hk, ha, hb⟩ := hc
    have heq := key_equal (d := 9998) hk ha hb w
    have hg : P.eqGuardType P.depth t = false := by
      have : P.depth = (P.depth - 2) + 2 := by unfold Program.depth; omega
      rw [this]; exact guard_type hk
    split at h
    · cases h
      rcases hab with ⟨p, q, rfl, rfl⟩ | ⟨p, q, rfl, rfl⟩
      · simp [eqGuard, binOp, Op.equal, Op.maxDepth, heq]
      · simp [eqGuard, binOp, Op.equal, Op.maxDepth, heq, hg]
    · cases h
      rcases hab with ⟨p, q, rfl, rfl⟩ | ⟨p, q, rfl, rfl⟩
      · simp [eqGuard, binOp, Op.equal, Op.maxDepth, heq]
      · simp [eqGuard, binOp, Op.equal, Op.maxDepth, heq, hg]
    · cases h
  · cases h
end
end Go.Cl
/- Operations, one by one: arithmetic, append, make. -/
namespace Go.Cl
open Go Go.RowKit
set_option linter.unusedSimpArgs false
set_option linter.unusedVariables false

section
variable {P : Program} {w : World} {D : Nat → Prop} {β : Nat → Nat × Nat} {κ : Nat → Nat} {base n : Nat} {N : Kp}

theorem flatRun_spec {vs : List Value} {s : Sem Value} {q : QRes} (h : flatRun P vs s = some q) : (∀ v ∈ vs, isFlat v = true) ∧ ∃ v, q = { val := v } ∧ pureRun P s = some v ∧ isFlat v = true := by
  unfold flatRun at h
  split at h
  · rename_i ha
    split at h
    · rename_i v hv
      split at h
      · rename_i hf
        cases h
        exact ⟨fun v hv => List.all_eq_true.1 ha v hv, v, rfl, hv, hf⟩
      · cases h
    · cases h
  · cases h

theorem intBin_sim {op : BinOp} {k k' : IntKind} {a b : Int} {v : Value} (h : intBin op k k' a b = some v) (t : TypeId) (x y : Operand) (w : World) :
    (do eqGuard op t x y (.int k a) (.int k' b); binOp op t (.int k a) (.int k' b)).run P w = .ok v w ∧ isFlat v = true := by
  unfold intBin at h
  split at h
  · cases h
  · rename_i hk
    have hk' : k = k' := Decidable.of_not_not hk
    subst hk'
    cases op <;> simp at h <;> first
      | (subst h; exact ⟨by simp [eqGuard, binOp, Op.intArith, Op.intDiv, Op.intCmp], rfl⟩)
      | (obtain ⟨h1, h2⟩ := h; subst h2; exact ⟨by simp [eqGuard, binOp, Op.intArith, Op.intDiv, Op.intCmp, h1], rfl⟩)

theorem eqSliceNil {t e : TypeId} {a : Addr} {l c n c2 : Nat} (hu : P.underlying t = some (.slice e)) (w : World) (d : Nat) : (Op.equalIn (d + 1) t (.slice (some a) l c) (.slice none n c2)).run P w = .ok false w := by
  simp [Op.equalIn, run_underlying hu]
theorem bin_sim {op : BinOp} {t : TypeId} {x y : Operand} {a b a' b' : Value} {q : QRes} (h : qBin P op t x y a b = some q) (ha : VR D β κ a a') (hb : VR D β κ b b') :
    ∃ v', (do eqGuard op t x y a' b'; binOp op t a' b').run P w = .ok v' w ∧ VR D β κ q.val v' ∧ q = { val := q.val } := by
  have flat : ∀ s, flatRun P [a, b] s = some q → a' = a ∧ b' = b := fun s hs => by
    obtain ⟨h1, _⟩ := flatRun_spec hs
    exact ⟨ha.flat (h1 a (by simp)), hb.flat (h1 b (by simp))⟩
  have run : flatRun P [a, b] (do eqGuard op t x y a b; binOp op t a b) = some q → ∃ v', (do eqGuard op t x y a' b'; binOp op t a' b').run P w = .ok v' w ∧ VR D β κ q.val v' ∧ q = { val := q.val } := fun hs => by
    obtain ⟨rfl, rfl⟩ := flat _ hs
    obtain ⟨_, v, rfl, h2, h3⟩ := flatRun_spec hs
    exact ⟨v, pureRun_run h2 w, .of_flat h3, rfl⟩
  unfold qBin at h
  split at h
  · split at h
    · rename_i v hv
      cases h
      cases ha
      cases hb
      obtain ⟨h1, h2⟩ := intBin_sim (P := P) hv t x y w
      exact ⟨v, h1, .of_flat h2, rfl⟩
    · exact run h
  · rename_i p r
    have key : qv (cmpKeys P op t (.bool p) (.bool r)) = some q → ∃ v', (do eqGuard op t x y a' b'; binOp op t a' b').run P w = .ok v' w ∧ VR D β κ q.val v' ∧ q = { val := q.val } := fun h => by
      unfold qv at h
      cases hc : cmpKeys P op t (.bool p) (.bool r) with
      | none => rw [hc] at h; cases h
      | some v =>
        rw [hc] at h
        cases h
        cases ha
        cases hb
        refine ⟨v, cmpKeys_sim hc w (.inl ⟨_, _, rfl, rfl⟩), .of_flat ?_, rfl⟩
        unfold cmpKeys at hc
        split at hc
        · split at hc <;> simp at hc <;> subst hc <;> rfl
        · cases hc
    split at h
    · exact key h
    · exact key h
    · cases h
  · rename_i p r
    cases hc : cmpKeys P op t (.agg p) (.agg r) with
    | none => rw [hc] at h; exact run h
    | some v =>
      rw [hc] at h
      cases h
      have hc0 := hc
      unfold cmpKeys at hc
      split at hc
      · rename_i hcond
        -- keys are flat
        have leaf : ∀ (fs : List Field) (l : List Value), fitLeaves P fs l = true → l.all leafFlat = true := by
          intro fs
          induction fs with
          | nil => intro l hl; cases l with | nil => rfl | cons => cases hl
          | cons f fs ih =>
            intro l hl
            cases l with
            | nil => rfl
            | cons z l =>
              simp only [fitLeaves, Bool.and_eq_true] at hl
              simp only [List.all_cons, Bool.and_eq_true]
              refine ⟨?_, ih l hl.2⟩
              cases hu : P.underlying f.type with
              | none => rw [hu] at hl; simp [fitLeaf] at hl
              | some d => rw [hu] at hl; cases d <;> simp [fitLeaf] at hl <;> cases z <;> simp_all [leafFlat]
        have fl : ∀ z : Value, keyFits P t z = true → (∃ p, z = .agg p) → flat1 z = true := by
          rintro z hz ⟨p, rfl⟩
          unfold keyFits at hz
          cases hu : P.underlying t with
          | none => rw [hu] at hz; simp [fitLeaf] at hz
          | some d =>
            rw [hu] at hz
            cases d <;> simp [fitLeaf] at hz
            simpa [flat1] using leaf _ _ hz
        have e1 := ha.flat1 (fl _ hcond.2.1 ⟨_, rfl⟩)
        have e2 := hb.flat1 (fl _ hcond.2.2 ⟨_, rfl⟩)
        rw [e1, e2]
        refine ⟨v, cmpKeys_sim hc0 w (.inr ⟨_, _, rfl, rfl⟩), .of_flat ?_, rfl⟩
        split at hc <;> simp at hc <;> subst hc <;> rfl
      · cases hc
  · rename_i a0 l c n0 c0
    split at h
    · rename_i hl
      have hx : ∃ a1 c1, a' = .slice (some a1) l c1 := by
        cases ha with
        | slice i o l c hi hlc hc => exact ⟨_, _, rfl⟩
        | sliceU i o l q hi hq hk => exact ⟨_, _, rfl⟩
        | sliceA i o l C c hi hC hlc hc => exact ⟨_, _, rfl⟩
        | _ => exact absurd hl (Nat.lt_irrefl 0)
      have hy : ∃ n1 c1, b' = .slice none n1 c1 := by
        cases hb with
        | _ => exact ⟨_, _, rfl⟩
      obtain ⟨a1, c1, rfl⟩ := hx
      obtain ⟨n1, c2, rfl⟩ := hy
      split at h
      · rename_i e hu
        cases h
        exact ⟨.bool false, by simp only [eqGuard, binOp]; simp [Op.equal, Op.maxDepth, eqSliceNil hu w 9999], .bool _, rfl⟩
      · rename_i e hu
        cases h
        exact ⟨.bool true, by simp only [eqGuard, binOp]; simp [Op.equal, Op.maxDepth, eqSliceNil hu w 9999], .bool _, rfl⟩
      · cases h
    · cases h
  · exact run h

theorem un_sim {op : UnOp} {a a' : Value} {q : QRes} (h : qUn P op a = some q) (ha : VR D β κ a a') :
    ∃ v', (Op.unary op a').run P w = .ok v' w ∧ VR D β κ q.val v' ∧ q = { val := q.val } := by
  unfold qUn at h
  split at h
  · cases h; cases ha; exact ⟨_, by simp [Op.unary], .bool _, rfl⟩
  · cases h; cases ha; exact ⟨_, by simp [Op.unary, Op.intArith], .int _ _, rfl⟩
  · obtain ⟨h1, v, rfl, h2, h3⟩ := flatRun_spec h
    rw [ha.flat (h1 _ (by simp))]
    exact ⟨v, pureRun_run h2 w, .of_flat h3, rfl⟩

theorem convert_sim {s d : TypeId} {a a' : Value} {q : QRes} (h : qConvert P s d a = some q) (ha : VR D β κ a a') :
    ∃ v', (convert s d a').run P w = .ok v' w ∧ VR D β κ q.val v' ∧ q = { val := q.val } := by
  obtain ⟨h1, v, rfl, h2, h3⟩ := flatRun_spec h
  rw [ha.flat (h1 _ (by simp))]
  exact ⟨v, pureRun_run h2 w, .of_flat h3, rfl⟩

/-! ### append -/

theorem nextcap_le {need c : Nat} (h : c < need) : Builtin.nextslicecap need c ≤ 2 * need + 800 := by
  have g : ∀ (r c : Nat), c ≤ 2 * need + 800 → Builtin.growBy need r c ≤ 2 * need + 800 := by
    intro r
    induction r with
    | zero => intro c h; simpa [Builtin.growBy] using h
    | succ r ih =>
      intro c h
      unfold Builtin.growBy
      split
      · exact h
      · exact ih _ (by omega)
  unfold Builtin.nextslicecap
  split
  · omega
  · split
    · omega
    · exact g _ _ (by omega)

/-- What is appended, in the model: so many elements; a number of zeros or a slice; its cells. -/
structure ArgRun (P : Program) (w : World) (size bytes : Nat) (zero : Value) (d : TypeDesc) (x' : Value) (xn : Nat) (xs' : List Value) : Prop where
  len : xs'.length = xn * size
  kind : (∃ e, d = .slice e ∧ (Builtin.lenOf x').run P w = .ok xn w ∧ ∀ w' : World, w'.heap = w.heap → (Builtin.firstCells size xn x').run P w' = .ok xs'.toArray w') ∨
    (∃ k q l, d = .int k ∧ x' = .int q l ∧ 0 ≤ l ∧ l < INF ∧ l * bytes ≤ 2 ^ 48 ∧ l.toNat = xn ∧ xs' = (List.replicate xn zero.cells.toList).flatten)

theorem zeroCells_toList (z : Array Value) (k : Nat) (hz : 0 < z.size) : (Builtin.zeroCells z k).toList = (List.replicate k z.toList).flatten := by
  unfold Builtin.zeroCells
  apply List.ext_getElem?
  intro j
  have hlen : ((List.replicate k z.toList).flatten).length = k * z.size := by simp
  by_cases hj : j < k * z.size
  · have h1 : j % z.size < z.size := Nat.mod_lt _ hz
    have e : ((List.replicate k z.toList).flatten)[j]? = z.toList[j % z.size]? := by
      clear hlen
      induction k generalizing j with
      | zero => simp at hj
      | succ k ih =>
        rw [List.replicate_succ, List.flatten_cons, List.getElem?_append]
        split
        · rename_i h; simp at h; rw [Nat.mod_eq_of_lt h]
        · rename_i h
          simp only [Array.length_toList, Nat.not_lt] at h ⊢
          have hj' : j - z.size < k * z.size := by rw [Nat.succ_mul] at hj; omega
          rw [ih (j - z.size) hj' (Nat.mod_lt _ hz)]
          rw [Nat.mod_eq_sub_mod h]
    have e2 : z[j % z.size]! = z[j % z.size] := getElem!_pos z _ h1
    rw [e]
    simp [hj, e2, h1]
  · rw [List.getElem?_eq_none (l := (List.replicate k z.toList).flatten) (by rw [hlen]; omega)]
    simp; omega

theorem arg_sim {h : List Blk} {size bytes : Nat} {zero : Value} {d : TypeDesc} {x x' : Value} {xn : Nat} {xs : List Value} (ha : appArg h size bytes zero (some d) x = some (xn, xs))
    (hR : Rel P D β κ base N (toF h) w) (hx : VR D β κ x x') (hz : flat1 zero = true) (hzs : zero.cells.size = size) (hs : 0 < size) :
    ∃ xs', LR D β κ xs xs' ∧ ArgRun P w size bytes zero d x' xn xs' := by
  unfold appArg at ha
  split at ha
  · rename_i e xb k c heq
    cases heq
    cases hr : readCells h xb (k * size) with
    | none => rw [hr] at ha; cases ha
    | some ys =>
      rw [hr] at ha
      cases ha
      have go : ∀ (b' : Option Addr) (c' : Nat), x' = .slice b' xn c' → VR D β κ (.slice xb xn c) (.slice b' xn c') → ∃ xs', LR D β κ xs xs' ∧ ArgRun P w size bytes zero (.slice e) x' xn xs' := by
        rintro b' c' rfl hv
        obtain ⟨rs, h1, h2, h3, h4⟩ := readCells_sim hr hR hv (fun h0 => by rw [h0]; simp)
        refine ⟨rs, h1, h2, .inl ⟨e, rfl, by simp [Builtin.lenOf], fun w' hw => ?_⟩⟩
        cases b' with
        | some a => simp [Builtin.firstCells, h3 a rfl w' hw]
        | none =>
          have := h4 rfl
          have : rs = [] := List.length_eq_zero_iff.1 (h2.trans this)
          subst this
          simp [Builtin.firstCells]
      cases hx with
      | snil => exact go _ _ rfl .snil
      | slice i o l c hi hlc hc => exact go _ _ rfl (.slice i o _ _ hi hlc hc)
      | sliceU i o l q hi hq hk => exact go _ _ rfl (.sliceU i o _ q hi hq hk)
      | sliceE i o q a hq => exact go _ _ rfl (.sliceE i o q a hq)
      | sliceZ i o a => exact go _ _ rfl (.sliceZ i o a)
      | sliceA i o l C c2 hi hC hlc hc => exact go _ _ rfl (.sliceA i o _ _ _ hi hC hlc hc)
      | sliceAN i o C a hC => exact go _ _ rfl (.sliceAN i o _ a hC)
  · rename_i k q l heq
    cases heq
    split at ha
    · rename_i hc
      cases ha
      cases hx
      have hfl := flat1_cells hz
      refine ⟨_, .of_leaves ?_, ?_, .inr ⟨k, q, l, rfl, rfl, hc.1, hc.2.1, hc.2.2, rfl, rfl⟩⟩
      · rw [List.all_eq_true] at hfl ⊢
        intro v hv
        obtain ⟨m, hm, hv'⟩ := List.mem_flatten.1 hv
        rw [(List.mem_replicate.1 hm).2] at hv'
        exact hfl v hv'
      · simp [hzs]
    · cases ha
  · cases ha

theorem wrap_small {l : Int} (h0 : 0 ≤ l) (h : l < INF) : IntKind.i64.wrap l = l := by
  simp only [INF] at h
  unfold IntKind.wrap
  have e : (2 : Int) ^ IntKind.i64.bits = 18446744073709551616 := by decide
  have e' : (2 : Int) ^ (IntKind.i64.bits - 1) = 9223372036854775808 := by decide
  simp only [e, e']
  have : l % 18446744073709551616 = l := by omega
  rw [this]
  simp
  omega

/-- In place. -/
theorem append_in {ts : Array TypeId} {ty sT xT e : TypeId} {size bytes : Nat} {zero x' : Value} {d : TypeDesc} {xn : Nat} {xs' : List Value} {a' : Option Addr} {sLen sCap : Nat} {w1 : World}
    (h0 : ts[0]? = some sT) (h1 : ts[1]? = some xT) (hu : P.underlying sT = some (.slice e)) (hux : P.underlying xT = some d) (hsz : sizeT P e = some size) (hby : bytesT P e = some bytes) (hz : zeroT P e = some zero)
    (hzs : zero.cells.size = size) (hs : 0 < size) (hA : ArgRun P w size bytes zero d x' xn xs') (hfit : sLen + xn ≤ sCap)
    (hst : ∀ a, a' = some a → (storeCells (a.add (sLen * size)) xs').run P w = .ok () w1) (hnone : a' = none → w1 = w) :
    (Builtin.append_ ts ty #[.slice a' sLen sCap, x']).run P w = .ok (.slice a' (sLen + xn) sCap) w1 := by
  obtain ⟨i, hi, hib⟩ := run_info hby w
  rcases hA.kind with ⟨e', rfl, hl, hc0⟩ | ⟨k, q, l, rfl, rfl, l0, l1, l2, rfl, hx⟩
  · have hc := hc0 w rfl
    cases a' with
    | none => have := hnone rfl; subst this; simp [Builtin.append_, h0, h1, run_und hu, run_und hux, run_size hsz, hl, hc, hfit]
    | some a => simp [Builtin.append_, h0, h1, run_und hu, run_und hux, run_size hsz, hl, hc, hfit, hst a rfl]
  · have hw := wrap_small l0 l1
    have hl0 : ¬ l < 0 := by omega
    have hlb : ¬ (281474976710656 < l * (i.bytes : Int)) := by rw [hib]; omega
    have hzz : 0 < zero.cells.size := by omega
    by_cases hn0 : l.toNat = 0
    · have hx0 : xs' = [] := by rw [hx, hn0]; rfl
      subst hx0
      have hfit' : sLen ≤ sCap := by omega
      cases a' with
      | none => have := hnone rfl; subst this; simp [Builtin.append_, h0, h1, run_und hu, run_und hux, run_size hsz, asInt, asIntOf, hw, hl0, hi, hlb, hn0, hfit']
      | some a =>
        have hst' := hst a rfl
        simp [storeCells] at hst'
        subst hst'
        simp [Builtin.append_, h0, h1, run_und hu, run_und hux, run_size hsz, asInt, asIntOf, hw, hl0, hi, hlb, hn0, storeCells, hfit']
    · have hns : ¬ (l.toNat * size = 0) := by
        intro h
        rcases Nat.mul_eq_zero.1 h with h | h <;> omega
      have hzc : (Builtin.zeroCells zero.cells l.toNat).toList = xs' := by rw [zeroCells_toList _ _ hzz, hx]
      cases a' with
      | none => have := hnone rfl; subst this; simp [Builtin.append_, h0, h1, run_und hu, run_und hux, run_size hsz, asInt, asIntOf, hw, hl0, hi, hlb, hfit, hns, run_zero hz]
      | some a => simp [Builtin.append_, h0, h1, run_und hu, run_und hux, run_size hsz, asInt, asIntOf, hw, hl0, hi, hlb, hfit, hns, run_zero hz, hzc, hst a rfl]

/-- Into new memory. -/
theorem append_new {ts : Array TypeId} {ty sT xT e : TypeId} {size bytes : Nat} {zero x' : Value} {d : TypeDesc} {xn : Nat} {xs' old' : List Value} {a' : Option Addr} {sLen sCap : Nat}
    (h0 : ts[0]? = some sT) (h1 : ts[1]? = some xT) (hu : P.underlying sT = some (.slice e)) (hux : P.underlying xT = some d) (hsz : sizeT P e = some size) (hby : bytesT P e = some bytes) (hz : zeroT P e = some zero)
    (hzs : zero.cells.size = size) (hs : 0 < size) (hA : ArgRun P w size bytes zero d x' xn xs') (hfit : ¬ sLen + xn ≤ sCap) (hbig : ¬ (2 * (sLen + xn) + 1000) * (bytes + 1) > 2 ^ 48)
    (hold : (Builtin.firstCells size sLen (.slice a' sLen sCap)).run P w.drew = .ok old'.toArray w.drew) :
    ∃ nc, sLen + xn ≤ nc ∧ nc < INF ∧ (Builtin.append_ ts ty #[.slice a' sLen sCap, x']).run P w =
      .ok (.slice (some ⟨w.heap.size, 0, none⟩) (sLen + xn) nc) (w.drew.alloc (.cells (old' ++ xs' ++ (List.replicate (nc - (sLen + xn)) zero.cells.toList).flatten).toArray e)) := by
  obtain ⟨i, hi, hib⟩ := run_info hby w
  obtain ⟨i2, hi2, hib2⟩ := run_info hby w.drew
  have hneed : sLen + xn < INF := by
    have : (2 * (sLen + xn) + 1000) * 1 ≤ (2 * (sLen + xn) + 1000) * (bytes + 1) := Nat.mul_le_mul_left _ (by omega)
    simp only [INF]; omega
  have hmax : ¬ (9223372036854775807 < (sLen : Int) + (xn : Int)) := by
    simp only [INF] at hneed; omega
  have hnx : ¬ (281474976710656 < Builtin.nextslicecap (sLen + xn) sCap * i.bytes) := by
    have h1 := nextcap_le (show sCap < sLen + xn by omega)
    have h2 : Builtin.nextslicecap (sLen + xn) sCap * i.bytes ≤ (2 * (sLen + xn) + 1000) * (bytes + 1) := Nat.mul_le_mul (by omega) (by omega)
    omega
  have hzz : 0 < zero.cells.size := by omega
  refine ⟨sLen + xn + w.tape w.drawn (.appendCap (sLen + xn) sCap e) % (2 ^ 63 - (sLen + xn)), by omega, ?_, ?_⟩
  · have : w.tape w.drawn (.appendCap (sLen + xn) sCap e) % (2 ^ 63 - (sLen + xn)) < 2 ^ 63 - (sLen + xn) := Nat.mod_lt _ (by simp only [INF] at hneed; omega)
    simp only [INF] at *; omega
  · generalize hnc : sLen + xn + w.tape w.drawn (.appendCap (sLen + xn) sCap e) % (2 ^ 63 - (sLen + xn)) = nc
    have hcut : (Question.appendCap (sLen + xn) sCap e).cut (w.tape w.drawn (.appendCap (sLen + xn) sCap e)) = nc := by simp [Question.cut, ← hnc]
    have hforced : (Question.appendCap (sLen + xn) sCap e).forced = false := rfl
    have hrest : (Builtin.zeroCells zero.cells (nc - (sLen + xn))).toList = (List.replicate (nc - (sLen + xn)) zero.cells.toList).flatten := zeroCells_toList _ _ hzz
    have hrest' : Builtin.zeroCells zero.cells (nc - (sLen + xn)) = ((List.replicate (nc - (sLen + xn)) zero.cells.toList).flatten).toArray := by rw [← hrest]
    rcases hA.kind with ⟨e', rfl, hl, hc0⟩ | ⟨k, q, l, rfl, rfl, l0, l1, l2, rfl, hx⟩
    · have hc' := hc0 w.drew rfl
      simp [Builtin.append_, h0, h1, run_und hu, run_und hux, run_size hsz, hl, hfit, hi, hmax, hnx, hforced, hcut, hi2, hold, hc', run_zero hz, hrest', newRow]
    · have hw := wrap_small l0 l1
      have hl0 : ¬ l < 0 := by omega
      have hlb : ¬ (281474976710656 < l * (i.bytes : Int)) := by rw [hib]; omega
      have hmax2 : ¬ (9223372036854775807 < (sLen : Int) + max l 0) := by simp only [INF] at hneed; omega
      by_cases hn0 : l.toNat * size = 0
      · have hx0 : xs' = [] := by
          have : l.toNat = 0 := by
            rcases Nat.mul_eq_zero.1 hn0 with h | h
            · exact h
            · omega
          rw [hx, this]; rfl
        subst hx0
        simp [Builtin.append_, h0, h1, run_und hu, run_und hux, run_size hsz, asInt, asIntOf, hw, hl0, hlb, hfit, hi, hmax, hmax2, hnx, hforced, hcut, hi2, hold, hn0, run_zero hz, hrest', newRow]
      · have hzc : Builtin.zeroCells zero.cells l.toNat = xs'.toArray := by
          have := zeroCells_toList zero.cells l.toNat hzz
          rw [← hx] at this
          rw [← this]
        simp [Builtin.append_, h0, h1, run_und hu, run_und hux, run_size hsz, asInt, asIntOf, hw, hl0, hlb, hfit, hi, hmax, hmax2, hnx, hforced, hcut, hi2, hold, hn0, run_zero hz, hzc, hrest', newRow]
end
end Go.Cl
/- Operations, one by one: append and make, on the clean heap. -/
namespace Go.Cl
open Go Go.RowKit
set_option linter.unusedSimpArgs false
set_option linter.unusedVariables false

section
variable {P : Program} {w : World} {D : Nat → Prop} {β : Nat → Nat × Nat} {κ : Nat → Nat} {base n : Nat} {N : Kp} {H : Nat → Blk}

/-- A slice that an append has made in new memory. -/
theorem QOut.grown {e : TypeId} {vs vs' rest : List Value} {need nc size : Nat} {u : Option (Nat × Blk)} (hR : Rel P D β κ base N H w) (hDn : ∀ i, D i → i < n)
    (hu : ∀ k b, u = some (k, b) → b = .dead ∧ base ≤ k ∧ k < n ∧ H k ≠ .dead)
    (h : LR D β κ vs vs') (hneed : need ≤ nc) (hnc : nc < INF) (hsz : sizeT P e = some size) (hlen : vs'.length + rest.length = nc * size) :
    ∃ β' κ', QOut P D β κ base N n w { val := .slice (some ⟨n, 0, none⟩) need UNK, new := [.cells e vs], upd := u } (.slice (some ⟨w.heap.size, 0, none⟩) need nc) (w.drew.alloc (.cells (vs' ++ rest).toArray e)) β' κ' := by
  refine ⟨fun i => if i = n then (w.heap.size, 0) else β i, fun i => if i = n then nc else κ i, ?_⟩
  have hold : ∀ {B : Nat}, B < w.heap.size → (w.drew.alloc (.cells (vs' ++ rest).toArray e)).heap[B]? = w.heap[B]? := fun hB => heap_alloc_old (w := w.drew) hB
  have hnew : (w.drew.alloc (.cells (vs' ++ rest).toArray e)).heap[w.heap.size]? = some (.cells (vs' ++ rest).toArray e) := heap_alloc_new (w := w.drew)
  have hDne : ∀ i, D i → i ≠ n := fun i hi => Nat.ne_of_lt (hDn i hi)
  exact {
    ext := fun i hi => by have : i ≠ n := fun e => hi (by subst e; exact ⟨Nat.le_refl _, by simp⟩); simp [this]
    val := by
      have := VR.sliceU (D := fun i => D i ∨ InNew n 1 i) (β := fun i => if i = n then (w.heap.size, 0) else β i) (κ := fun i => if i = n then nc else κ i) n 0 need 0 (.inr (inNew_one.2 rfl)) (by simpa using hneed) (by simpa using hnc)
      simpa using this
    below := ((Held.refl _ _).drew).alloc hR.size _
    keep := fun B hB _ => hold hB
    new := fun j c hc _ => by
      cases j with
      | zero =>
        simp at hc
        subst hc
        simp only [Nat.add_zero]
        refine ⟨⟨(vs' ++ rest).toArray, e, (0, 0), by simpa using hnew, fun k x hx => ?_⟩, ⟨(vs' ++ rest).toArray, e, by simpa using hnew, fun s hs => ?_⟩, by simpa using hR.size.free (Nat.le_refl _), .inl (by simp)⟩
        · obtain ⟨x', hx', hr⟩ := h.get hx
          refine ⟨x', ?_, hr.mono (fun _ h => .inl h) (fun i hi => by simp [hDne i hi])⟩
          have hk : k < vs'.length := (List.getElem?_eq_some_iff.1 hx').1
          simp only [if_true, Nat.zero_add, List.getElem?_toArray]
          rw [List.getElem?_append_left hk]
          exact hx'
        · rw [hsz] at hs
          cases hs
          simp [hlen]
      | succ j => simp at hc
    inj := fun i j b c hi hj _ _ _ => by
      cases i with
      | zero => cases j with | zero => rfl | succ j => simp at hj
      | succ i => simp at hi
    upd := fun k c h => by
      obtain ⟨rfl, h2, h3, _⟩ := hu k c h
      exact ⟨h2, h3, trivial, trivial⟩ }

theorem litK_spec {h : List Blk} {size sLen sCap k : Nat} {sb : Option Addr} (hl : litK P base h size sb sLen sCap = some k) :
    sLen = 0 ∧ sCap = 0 ∧ sb = some ⟨k, 0, none⟩ ∧ base ≤ k ∧ ∃ t, h[k]? = some (.cells t []) ∧ sizeT P t = some size := by
  unfold litK at hl
  split at hl
  · rename_i h0
    split at hl
    · rename_i k'
      split at hl
      · rename_i t hk
        split at hl
        · rename_i hc
          cases hl
          exact ⟨h0.1, h0.2, rfl, hc.1, t, hk, hc.2⟩
        · cases hl
      · cases hl
    · cases hl
  · cases hl

/-- Nothing is appended to a list of the function's own: it is called anew. -/
theorem QOut.nothing {e t : TypeId} {k : Nat} {vs : List Value} {b' : Option Addr} (hR : Rel P D β κ base N H w) (hDn : ∀ i, D i → i < n) (hk : H k = .cells t vs) (hbk : base ≤ k) (hkn : k < n) :
    ∃ β' κ', QOut P D β κ base N n w { val := .slice (some ⟨n, 0, none⟩) 0 UNK, new := [.cells e []], upd := some (k, .dead) } (.slice b' 0 0) w β' κ' := by
  have ha : H k ≠ .dead := by rw [hk]; intro h; cases h
  obtain ⟨hNk, hO⟩ := hR.own k ha hbk
  rw [hk] at hO
  obtain ⟨arr, T, hg, hroom⟩ := hO
  refine ⟨fun i => if i = n then ((β k).1, 0) else β i, fun i => if i = n then 0 else κ i, ?_⟩
  exact {
    ext := fun i hi => by have : i ≠ n := fun e => hi (by subst e; exact ⟨Nat.le_refl _, by simp⟩); simp [this]
    val := by
      have := VR.sliceE (D := fun i => D i ∨ InNew n 1 i) (β := fun i => if i = n then ((β k).1, 0) else β i) (κ := fun i => if i = n then 0 else κ i) n 0 0 b' (by decide)
      simpa using this
    below := Held.refl _ _
    keep := fun B _ _ => rfl
    new := fun j c hc _ => by
      cases j with
      | succ j => simp at hc
      | zero =>
        simp at hc
        subst hc
        simp only [Nat.add_zero]
        exact ⟨⟨arr, T, (0, 0), by simpa using hg, fun j x hx => by simp at hx⟩, ⟨arr, T, by simpa using hg, fun s hs => by simp⟩, by simpa using hNk, .inr ⟨k, rfl, by simp⟩⟩
    inj := fun i j b c hi hj _ _ _ => by
      cases i with
      | zero => cases j with | zero => rfl | succ j => simp at hj
      | succ i => simp at hi
    upd := fun k' c h => by
      simp only [Option.some.injEq, Prod.mk.injEq] at h
      obtain ⟨rfl, rfl⟩ := h
      exact ⟨hbk, hkn, trivial, trivial⟩ }

theorem append_sim {h : List Blk} {ts : Array TypeId} {ty : TypeId} {s s' x x' : Value} {q : QRes} (ha : cAppend P base h n ts s x = some q) (hR : Rel P D β κ base N (toF h) w)
    (hs : VR D β κ s s') (hx : VR D β κ x x') (hn : h.length ≤ n) (hDn : ∀ i, D i → i < n) :
    ∃ v' w' β' κ', (Builtin.append_ ts ty #[s', x']).run P w = .ok v' w' ∧ QOut P D β κ base N n w q v' w' β' κ' := by
  unfold cAppend at ha
  split at ha
  · rename_i e sb sLen sCap hu0
    split at ha
    · rename_i size bytes zero hsz hby hz
      split at ha
      · rename_i hc
        obtain ⟨hzf, hzs, hpos⟩ := hc
        cases hts0 : ts[0]? with
        | none => rw [hts0] at hu0; cases hu0
        | some sT =>
        rw [hts0] at hu0
        have hu : P.underlying sT = some (.slice e) := hu0
        cases hts1 : ts[1]? with
        | none => rw [hts1] at ha; simp [appArg] at ha
        | some xT =>
        rw [hts1] at ha
        cases hd : P.underlying xT with
        | none => simp only [Option.bind_some, hd, appArg] at ha; cases ha
        | some d =>
        simp only [Option.bind_some, hd] at ha
        split at ha
        · cases ha
        · rename_i xn xs harg
          obtain ⟨xs', hxl, hA⟩ := arg_sim harg hR hx hzf hzs hpos
          split at ha
          · -- to an empty list of the function's own
            rename_i k hlit
            obtain ⟨hl0, hc0, hsb, hbk, t, hk, htsz⟩ := litK_spec hlit
            have hkl : k < h.length := (List.getElem?_eq_some_iff.1 hk).1
            have hkc : toF h k = .cells t [] := toF_some hk
            split at ha
            · cases ha
            rename_i hbig
            cases ha
            have go : ∀ b' : Option Addr, s' = .slice b' sLen sCap → ∃ v' w' β' κ', (Builtin.append_ ts ty #[s', x']).run P w = .ok v' w' ∧
                QOut P D β κ base N n w { val := .slice (some ⟨n, 0, none⟩) xn UNK, new := [.cells e xs], upd := some (k, .dead) } v' w' β' κ' := by
              rintro b' rfl
              subst hl0 hc0
              by_cases hxn : xn = 0
              · subst hxn
                have hx0 : xs' = [] := List.length_eq_zero_iff.1 (by rw [hA.len]; simp)
                have hx1 : xs = [] := List.length_eq_zero_iff.1 (by rw [hxl.len, hx0]; rfl)
                subst hx0 hx1
                obtain ⟨β', κ', hq⟩ := QOut.nothing (P := P) (e := e) (b' := b') hR hDn hkc hbk (by omega)
                exact ⟨_, w, β', κ', append_in hts0 hts1 hu hd hsz hby hz hzs hpos hA (by omega) (fun a _ => by simp [storeCells]) (fun _ => rfl), hq⟩
              · have hold : (Builtin.firstCells size 0 (.slice b' 0 0)).run P w.drew = .ok ([] : List Value).toArray w.drew := by cases b' <;> simp [Builtin.firstCells, loadCells, loadCellsFrom]
                obtain ⟨nc, g1, g2, g3⟩ := append_new (ty := ty) hts0 hts1 hu hd hsz hby hz hzs hpos hA (by omega) (by simpa using hbig) hold
                obtain ⟨β', κ', hq⟩ := QOut.grown (P := P) (e := e) (need := 0 + xn) (nc := nc) (u := some (k, .dead)) (rest := (List.replicate (nc - (0 + xn)) zero.cells.toList).flatten) hR hDn (fun k' b h => by cases h; exact ⟨rfl, hbk, by omega, by rw [hkc]; intro h; cases h⟩) (LR.app (.nil) hxl) g1 g2 hsz (by
                  simp only [List.length_append, List.length_nil, List.length_flatten, List.map_replicate, List.sum_replicate_nat, Array.length_toList, hA.len, hzs]
                  rw [Nat.zero_add, Nat.zero_add, ← Nat.add_mul]; congr 1; omega)
                refine ⟨_, _, β', κ', g3, ?_⟩
                simpa using hq
            subst hsb
            cases hs with
            | slice i o l c hi hlc hc => exact go _ rfl
            | sliceU i o l q hi hq hk => simp only [UNK, INF] at *; omega
            | sliceE i o q a hq => simp only [UNK, INF] at *; omega
            | sliceZ i o a => exact go _ rfl
            | sliceA i o l C c hi hC hlc hc => simp only [UNK, INF] at *; omega
            | sliceAN i o C a hC => simp only [UNK, INF] at *; omega
          rename_i hlitn
          clear hlitn
          split at ha
          · -- nothing is appended
            rename_i hxn
            obtain ⟨hxn, _⟩ := hxn
            cases ha
            subst hxn
            have hx0 : xs' = [] := List.length_eq_zero_iff.1 (by rw [hA.len]; simp)
            subst hx0
            have go : ∀ (b' : Option Addr) (c' : Nat), s' = .slice b' sLen c' → sLen ≤ c' → ∃ v' w' β' κ', (Builtin.append_ ts ty #[s', x']).run P w = .ok v' w' ∧ QOut P D β κ base N n w { val := .slice sb sLen sCap } v' w' β' κ' := by
              rintro b' c' rfl hle
              exact ⟨_, w, β, κ, append_in hts0 hts1 hu hd hsz hby hz hzs hpos hA (by omega) (fun a _ => by simp [storeCells]) (fun _ => rfl), QOut.same hs⟩
            cases hs with
            | snil => exact go _ _ rfl (by omega)
            | slice i o l c hi hlc hc => exact go _ _ rfl hlc
            | sliceU i o l q hi hq hk => exact go _ _ rfl (by omega)
            | sliceE i o q a hq => exact go _ _ rfl (by omega)
            | sliceZ i o a => exact go _ _ rfl (by omega)
            | sliceA i o l C c hi hC hlc hc => exact go _ _ rfl hlc
            | sliceAN i o C a hC => exact go _ _ rfl (by omega)
          · rename_i hxn
            split at ha
            · -- in place, over a known capacity
              rename_i hfit
              obtain ⟨hcap, hfit⟩ := hfit
              unfold appIn at ha
              split at ha
              · rename_i a
                cases hs with
                | slice i o l c hi hlc hc =>
                  cases hst : cStoreAt base h ((⟨i, o, none⟩ : Addr).add (sLen * size)) xs with
                  | none => rw [hst] at ha; cases ha
                  | some u =>
                    rw [hst] at ha
                    cases ha
                    rw [add_eq] at hst
                    obtain ⟨w1, hrun, hq⟩ := storeAt_sim hst hR hxl hn
                    refine ⟨_, w1, β, κ, append_in hts0 hts1 hu hd hsz hby hz hzs hpos hA hfit (fun a ha => ?_) (fun h => by cases h), hq _ _ (.slice i o _ _ hi hfit hc)⟩
                    cases ha
                    rw [add_eq, Nat.add_assoc]
                    exact hrun
                | sliceU i o l q hi hq hk => simp only [UNK, INF] at *; omega
                | sliceE i o q a hq => simp only [UNK, INF] at *; omega
                | sliceZ i o a => omega
                | sliceA i o l C c hi hC hlc hc => simp only [UNK, INF] at *; omega
                | sliceAN i o C a hC => simp only [UNK, INF] at *; omega
              · cases ha
            · rename_i hnf
              split at ha
              · cases ha
              · rename_i hbig
                split at ha
                · -- a copy
                  rename_i hcap
                  have hnofit : ¬ sLen + xn ≤ sCap := fun h => hnf ⟨hcap, h⟩
                  unfold appCopy at ha
                  split at ha
                  · rename_i old hrd
                    cases ha
                    have go : ∀ (b' : Option Addr), s' = .slice b' sLen sCap → VR D β κ (.slice sb sLen sCap) (.slice b' sLen sCap) → ∃ v' w' β' κ', (Builtin.append_ ts ty #[s', x']).run P w = .ok v' w' ∧ QOut P D β κ base N n w { val := .slice (some ⟨n, 0, none⟩) (sLen + xn) UNK, new := [.cells e (old ++ xs)] } v' w' β' κ' := by
                      rintro b' rfl hv
                      obtain ⟨rs, h1, h2, h3, h4⟩ := readCells_sim hrd hR hv (fun h0 => by rw [h0]; simp)
                      have hold : (Builtin.firstCells size sLen (.slice b' sLen sCap)).run P w.drew = .ok rs.toArray w.drew := by
                        cases b' with
                        | some a => simp [Builtin.firstCells, h3 a rfl w.drew rfl]
                        | none =>
                          have : rs = [] := List.length_eq_zero_iff.1 (h2.trans (h4 rfl))
                          subst this
                          simp [Builtin.firstCells]
                      obtain ⟨nc, g1, g2, g3⟩ := append_new (ty := ty) hts0 hts1 hu hd hsz hby hz hzs hpos hA hnofit hbig hold
                      obtain ⟨β', κ', hq⟩ := QOut.grown (P := P) (e := e) (need := sLen + xn) (nc := nc) (u := none) (rest := (List.replicate (nc - (sLen + xn)) zero.cells.toList).flatten) hR hDn (fun k b h => by cases h) (h1.app hxl) g1 g2 hsz (by
                        simp only [List.length_append, List.length_flatten, List.map_replicate, List.sum_replicate_nat, Array.length_toList, h2, hA.len, hzs]
                        rw [← Nat.add_mul, ← Nat.add_mul]; congr 1; omega)
                      exact ⟨_, _, β', κ', g3, hq⟩
                    cases hs with
                    | snil => exact go _ rfl .snil
                    | slice i o l c hi hlc hc => exact go _ rfl (.slice i o _ _ hi hlc hc)
                    | sliceU i o l q hi hq hk => simp only [UNK, INF] at *; omega
                    | sliceE i o q a hq => simp only [UNK, INF] at *; omega
                    | sliceZ i o a => exact go _ rfl (.sliceZ i o a)
                    | sliceA i o l C c hi hC hlc hc => simp only [UNK, INF] at *; omega
                    | sliceAN i o C a hC => simp only [UNK, INF] at *; omega
                  · cases ha
                · -- on a slice that an append has made
                  rename_i hcap
                  unfold appOn at ha
                  split at ha
                  · rename_i k o
                    split at ha
                    · rename_i t vs hk
                      split at ha
                      · rename_i hcond
                        obtain ⟨hbk, htsz, ho, hcu, hov, hok⟩ := hcond
                        cases ha
                        have halive : toF h k ≠ .dead := by rw [toF_some hk]; simp
                        have hkl : k < h.length := (List.getElem?_eq_some_iff.1 hk).1
                        have hB := hR.blk k
                        rw [toF_some hk] at hB
                        cases hs with
                        | slice i o l c hi hlc hc => exact absurd hc hcap
                        | sliceZ => exact absurd (Nat.zero_le _) hcap
                        | sliceA i o l C c hi hC hlc hc => omega
                        | sliceAN i o C a hC => omega
                        | sliceE i o q a hq =>
                          by_cases hx00 : xn = 0
                          · subst hx00
                            have hx0 : xs' = [] := List.length_eq_zero_iff.1 (by rw [hA.len]; simp)
                            have hx1 : xs = [] := List.length_eq_zero_iff.1 (by rw [hxl.len, hx0]; rfl)
                            subst hx0 hx1
                            obtain ⟨β', κ', hq⟩ := QOut.nothing (P := P) (e := e) (b' := a) hR hDn (toF_some hk) hbk (by omega)
                            refine ⟨_, w, β', κ', append_in hts0 hts1 hu hd hsz hby hz hzs hpos hA (by omega) (fun a _ => by simp [storeCells]) (fun _ => rfl), ?_⟩
                            simpa using hq
                          -- nothing is there yet
                          have hold : (Builtin.firstCells size 0 (.slice a 0 0)).run P w.drew = .ok ([] : List Value).toArray w.drew := by cases a <;> simp [Builtin.firstCells, loadCells, loadCellsFrom]
                          obtain ⟨nc, g1, g2, g3⟩ := append_new (ty := ty) hts0 hts1 hu hd hsz hby hz hzs hpos hA (by omega) hbig hold
                          obtain ⟨β', κ', hq⟩ := QOut.grown (P := P) (e := e) (need := 0 + xn) (nc := nc) (u := some (k, .dead)) (rest := (List.replicate (nc - (0 + xn)) zero.cells.toList).flatten) hR hDn (fun k' b h => by cases h; exact ⟨rfl, hbk, by omega, halive⟩) (LR.app (.nil) hxl) g1 g2 hsz (by
                            simp only [List.length_append, List.length_nil, List.length_flatten, List.map_replicate, List.sum_replicate_nat, Array.length_toList, hA.len, hzs]
                            rw [Nat.zero_add, Nat.zero_add, ← Nat.add_mul]; congr 1; omega)
                          refine ⟨_, _, β', κ', g3, ?_⟩
                          simpa using hq
                        | sliceU i o l q hi hq hk2 =>
                          have hq' : UNK - (UNK - q) = q := by simp only [UNK, INF] at *; omega
                          rw [hq'] at ho
                          obtain ⟨rs, h1, h2, h3⟩ := cells_at hB hov
                          by_cases hfit : sLen + xn ≤ κ k - q
                          · -- in place
                            obtain ⟨hNk, hO⟩ := hR.own k halive hbk
                            rw [toF_some hk] at hO
                            obtain ⟨arr, T, hg, hroom⟩ := hO
                            obtain ⟨arr2, T2, fz2, hg2, hcells⟩ := hB
                            rw [hg] at hg2
                            cases hg2
                            have hro := hroom size htsz
                            have hmul : q * size + (κ k - q) * size = κ k * size := by rw [← Nat.add_mul]; congr 1; omega
                            have hmul2 : sLen * size + xn * size ≤ (κ k - q) * size := by rw [← Nat.add_mul]; exact Nat.mul_le_mul_right _ hfit
                            have hone : ∀ v ∈ xs', v.oneCell' = true := fun v hv => by
                              obtain ⟨j, hj⟩ := List.mem_iff_getElem?.1 hv
                              have hj' : j < xs.length := by rw [hxl.len]; exact (List.getElem?_eq_some_iff.1 hj).1
                              exact oneCell_of (hxl.at_ j _ _ (List.getElem?_eq_getElem hj') hj) (List.all_eq_true.1 hok _ (List.getElem_mem hj'))
                            have hlen' := hA.len
                            have hrun := run_storeCells_at P (β k).1 ((β k).2 + o + sLen * size) T xs' 0 arr w hg (by omega) hone
                            simp only [Nat.add_zero] at hrun
                            have hnew := setRow_heap w (β k).1 arr (arr.toList.take ((β k).2 + o + sLen * size) ++ xs' ++ arr.toList.drop ((β k).2 + o + sLen * size + xs'.length)).toArray T (0, 0) hg
                            generalize hna : (arr.toList.take ((β k).2 + o + sLen * size) ++ xs' ++ arr.toList.drop ((β k).2 + o + sLen * size + xs'.length)).toArray = na at hrun hnew
                            have hDne : ∀ i, D i → i ≠ n := fun i hi => Nat.ne_of_lt (hDn i hi)
                            refine ⟨_, _, fun i => if i = n then ((β k).1, (β k).2 + o) else β i, fun i => if i = n then κ k - q else κ i,
                              append_in (w1 := w.setRow (β k).1 na) hts0 hts1 hu hd hsz hby hz hzs hpos hA hfit (fun a ha => by cases ha; rw [add_eq]; exact hrun) (fun h => by cases h), ?_⟩
                            exact {
                              ext := fun i hi => by have : i ≠ n := fun e => hi (by subst e; exact ⟨Nat.le_refl _, by simp⟩); simp [this]
                              val := by
                                have := VR.sliceU (D := fun i => D i ∨ InNew n 1 i) (β := fun i => if i = n then ((β k).1, (β k).2 + o) else β i) (κ := fun i => if i = n then κ k - q else κ i) n 0 (sLen + xn) 0 (.inr (inNew_one.2 rfl)) (by simpa using hfit) (by simp; omega)
                                simpa using this
                              below := held_setRow (Held.refl _ _) hNk _
                              keep := fun B _ hu => setRow_other w _ _ _ (hu k _ rfl)
                              new := fun j c hc _ => by
                                cases j with
                                | succ j => simp at hc
                                | zero =>
                                  simp at hc
                                  subst hc
                                  simp only [Nat.add_zero]
                                  refine ⟨⟨na, T, (0, 0), by simpa using hnew, fun j x hx => ?_⟩, ⟨na, T, by simpa using hnew, fun s hs => ?_⟩, by simpa using hNk, .inr ⟨k, rfl, by simp⟩⟩
                                  · have up : ∀ (z z' : Value), VR D β κ z z' → VR (fun i => D i ∨ InNew n 1 i) (fun i => if i = n then ((β k).1, (β k).2 + o) else β i) (fun i => if i = n then κ k - q else κ i) z z' := fun z z' hz => hz.mono (fun _ h => .inl h) (fun i hi => by simp [hDne i hi])
                                    have la : (arr.toList.take ((β k).2 + o + sLen * size)).length = (β k).2 + o + sLen * size := by simp; omega
                                    have lb : ((vs.drop o).take (sLen * size)).length = sLen * size := by simp; omega
                                    rw [List.getElem?_append, lb] at hx
                                    simp only [if_true, ← hna, List.getElem?_toArray]
                                    rw [List.append_assoc, List.getElem?_append, la]
                                    split at hx
                                    · rename_i hj
                                      rw [if_pos (by omega)]
                                      rw [List.getElem?_take, if_pos hj, List.getElem?_drop] at hx
                                      obtain ⟨v', h1', h2'⟩ := hcells _ _ hx
                                      refine ⟨v', ?_, up _ _ h2'⟩
                                      rw [List.getElem?_take, if_pos (by omega), Nat.add_assoc]
                                      simpa using h1'
                                    · rename_i hj
                                      rw [if_neg (by omega)]
                                      obtain ⟨v', h1', h2'⟩ := hxl.get hx
                                      refine ⟨v', ?_, up _ _ h2'⟩
                                      have hj2 : j - sLen * size < xs'.length := (List.getElem?_eq_some_iff.1 h1').1
                                      have e1 : (β k).2 + o + j - ((β k).2 + o + sLen * size) = j - sLen * size := by omega
                                      rw [e1, List.getElem?_append_left hj2]
                                      exact h1'
                                  · rw [hsz] at hs
                                    cases hs
                                    simp only [if_true, ← hna, List.size_toArray, List.length_append, List.length_take, List.length_drop, Array.length_toList]
                                    omega
                              inj := fun i j b c hi hj _ _ _ => by
                                cases i with
                                | zero => cases j with | zero => rfl | succ j => simp at hj
                                | succ i => simp at hi
                              upd := fun k' c h => by
                                simp only [Option.some.injEq, Prod.mk.injEq] at h
                                obtain ⟨rfl, rfl⟩ := h
                                exact ⟨hbk, by omega, trivial, trivial⟩ }
                          · have hold : (Builtin.firstCells size sLen (.slice (some ⟨(β k).1, (β k).2 + o, none⟩) sLen (κ k - q))).run P w.drew = .ok rs.toArray w.drew := by
                              have := run_loadCells_list (P := P) (w := w.drew) ⟨(β k).1, (β k).2 + o, none⟩ rs (fun j v hv => by simpa using h3 j v hv)
                              rw [h2] at this
                              simpa [Builtin.firstCells] using this
                            obtain ⟨nc, g1, g2, g3⟩ := append_new (ty := ty) hts0 hts1 hu hd hsz hby hz hzs hpos hA hfit hbig hold
                            obtain ⟨β', κ', hq⟩ := QOut.grown (P := P) (e := e) (need := sLen + xn) (nc := nc) (u := some (k, .dead)) (rest := (List.replicate (nc - (sLen + xn)) zero.cells.toList).flatten) hR hDn (fun k' b h => by cases h; exact ⟨rfl, hbk, by omega, halive⟩) (h1.app hxl) g1 g2 hsz (by
                              simp only [List.length_append, List.length_flatten, List.map_replicate, List.sum_replicate_nat, Array.length_toList, h2, hA.len, hzs]
                              rw [← Nat.add_mul, ← Nat.add_mul]; congr 1; omega)
                            exact ⟨_, _, β', κ', g3, hq⟩
                      · cases ha
                    · cases ha
                  · cases ha
      · cases ha
    · cases ha
  · cases ha
end
end Go.Cl
