/- Abstract values, the abstract store and the abstract operations: definitions alone, over any program. Runs over abstract values: regions, code, calls. Definitions alone. What an abstract value and an abstract store say of the model's values and of its world. What is told of a value by its abstract value; reading cells. The operations, one by one: what the model does is what `den` says. Own work of this seat. -/
import Derived.Orders
import Derived.Laws.AppendOwn
import Derived.Laws.MakeOwn
import Derived.Below
import Derived.Laws.Tables
import Derived.ChangeKeysEq
namespace Go.Proofs.YtaajfbcopafkaaaGreatDoor.Ai
open Go

/-- Abstract values. `slc`: a slice by what it holds (rows of so many cells) and its capacity, if that is known; `rptr`: a pointer to cells that are not written; `ptr`, `eptr`, `bsl`: into the abstract store. -/
inductive AVal where
  | int (k : IntKind) (n : Int)
  | bool (b : Bool)
  | str (s : List UInt8)
  | nilptr
  | nilfunc
  | nilif
  | nilmap
  | undef
  | rptr (cells : List AVal)
  | slc (sz : Nat) (rows : List (List AVal)) (cap : Option Nat)
  | func (f : FuncId) (first caps : List AVal)
  | agg (cells : List AVal)
  | tup (vs : List AVal)
  | iface (t : TypeId) (v : AVal)
  | ptr (b off : Nat)
  | eptr (b n i j : Nat)
  | bsl (b n : Nat)
  | sub (b n lo len : Nat) (cap : Option Nat)
  | csl (b off sz len cap : Nat)
  | mapr (b : Nat)
  | yld (ps : List Nat) (assign body : Code) (tmps : List AVal)
  | dead

instance : Inhabited AVal := ⟨.dead⟩

/-- Blocks of the abstract store: fixed cells; a buffer (what a slice that is written or appended to lies in), or one that no memory has been made for yet; a string's iterator; what is gone. -/
inductive Blk where
  | cells (t : TypeId) (cs : List AVal)
  | buf (t : TypeId) (sz : Nat) (rows : List (List AVal)) (cap : Option Nat)
  | nbuf (t : TypeId) (sz : Nat)
  | iter (s : List UInt8) (pos : Nat)
  | arr (t : TypeId) (sz : Nat) (rows : List (List AVal))
  | map (es : List (AVal × AVal × Nat)) (clock : Nat)
  | miter (mv : AVal) (since : Nat) (seen : List Nat) (last : Nat)
  | gone

instance : Inhabited Blk := ⟨.gone⟩

structure St where
  tmps : List AVal
  sto : List Blk

/-- What is fixed: the program, what its global variables read as, and outside contracts. -/
structure Ctx where
  P : Program
  glob : Nat → AVal
  X : FuncId → List AVal → AVal → Prop
  /-- A table of the types, for runs by the kernel. -/
  I : TypeId → Option TypeInfo := P.info?
  hI : I = P.info? := by rfl
  /-- A table of the functions. -/
  J : FuncId → Option Func := fun g => P.funcs[g]?
  hJ : J = fun g => P.funcs[g]? := by rfl
  /-- What a call of a loop's yield comes to: its round. -/
  Y : AVal → List AVal → List Blk → AVal → List Blk → Prop := fun _ _ _ _ _ => False
  /-- What functions from outside come to, for runs by the kernel. -/
  XE : FuncId → List AVal → (Nat → Option Blk) → Option AVal := fun _ _ _ => none
  /-- Variables whose whole block is known. -/
  tabs : Nat → Option (Array Value) := fun _ => none

def AVal.cells : AVal → List AVal
  | .agg cs => cs
  | v => [v]

def ofVal0 : Value → AVal
  | .int k n => .int k n
  | .bool b => .bool b
  | .string s => .str s.data.toList
  | .pointer none => .nilptr
  | .slice none 0 0 => .slc 0 [] (some 0)
  | .nilFunc => .nilfunc
  | .nilIface => .nilif
  | .map none => .nilmap
  | .func (.func f) first caps => if first.size = 0 ∧ caps.size = 0 then .func f [] [] else .dead
  | _ => .dead

def ofVal : Value → AVal
  | .agg cs => .agg (cs.toList.map ofVal0)
  | v => ofVal0 v

/-! Types, as the operations want them. -/
def szOf (P : Program) (t : TypeId) : Nat := P.cellsOf t
def byOf (P : Program) (t : TypeId) : Nat := P.bytesOf t
def aggD : TypeDesc → Bool
  | .struct _ => true
  | .array _ _ => true
  | _ => false
/-- Whether a type's values fill several cells, and how many they fill. -/
def lay (P : Program) (t : TypeId) : Option (Bool × Nat) := match P.info? t, P.underlying t with | some i, some d => some (aggD d, i.size) | _, _ => none
/-- Where a struct's fields lie, and how many cells each has. -/
def structT (P : Program) (t : TypeId) : Option (List (Nat × Nat)) :=
  match P.underlying t with
  | some (.struct fs) => fs.toList.mapM fun f => (P.info? f.type).map fun i => (f.offset, i.size)
  | _ => none
def zeroT (P : Program) (t : TypeId) : Option (List AVal) := ((P.info? t).bind (·.zero)).map fun z => (ofVal z).cells
def elemT (P : Program) (t : TypeId) : Option TypeId := match P.underlying t with | some (.slice e) => some e | _ => none
def arrT (P : Program) (t : TypeId) : Option (Nat × TypeId) := match P.underlying t with | some (.array n e) => some (n, e) | _ => none
def fieldT (P : Program) (t : TypeId) (f : Nat) : Option (Nat × TypeId) :=
  match P.underlying t with
  | some (.struct fs) => (fs[f]?).map fun x => (x.offset, x.type)
  | _ => none
def strT (P : Program) (t : TypeId) : Bool := match P.underlying t with | some .string => true | _ => false
def intT (P : Program) (t : TypeId) : Option IntKind := match P.underlying t with | some (.int k) => some k | _ => none
inductive LK where
  | b
  | i
  | s

/-- The cells of a type whose values '==' compares cell by cell. -/
def leavesT (P : Program) : Nat → TypeId → Option (List LK)
  | 0, _ => none
  | d + 1, t =>
    match P.underlying t with
    | some .bool => if szOf P t = 1 then some [.b] else none
    | some (.int _) => if szOf P t = 1 then some [.i] else none
    | some .string => if szOf P t = 1 then some [.s] else none
    | some (.struct fs) => if P.stoodInHeld t = true then none else go d (szOf P t) fs.toList 0
    | some (.array n e) => if szOf P t = n * szOf P e then (leavesT P d e).map fun l => (List.replicate n l).flatten else none
    | _ => none
where
  go (d size : Nat) : List Field → Nat → Option (List LK)
    | [], off => if off = size then some [] else none
    | f :: fs, off => if f.name = "_" then none else if f.offset = off then (leavesT P d f.type).bind fun l => (go d size fs (off + szOf P f.type)).map (l ++ ·) else none

/-! Cells. -/
def takeN (n : Nat) (l : List AVal) : Option (List AVal) := if n ≤ l.length then some (l.take n) else none
def setAt (cs : List AVal) (off : Nat) (vs : List AVal) : List AVal := cs.take off ++ vs ++ cs.drop (off + vs.length)

def curOf (sto : List Blk) (b : Nat) : Option Nat :=
  match sto[b]? with
  | some (.buf _ _ rows _) => some rows.length
  | some (.nbuf _ _) => some 0
  | some (.arr _ _ rows) => some rows.length
  | _ => none

/-- A value that fills one cell, and of which all is known. -/
def solid (sto : List Blk) : AVal → Bool
  | .agg _ => false
  | .tup _ => false
  | .undef => false
  | .dead => false
  | .bsl b n => curOf sto b == some n
  | .eptr b n _ _ => curOf sto b == some n
  | .sub b n _ _ _ => curOf sto b == some n
  | .yld _ _ _ _ => false
  | _ => true

/-- A value that fills one cell and holds no reference into the abstract store at its top. -/
def cellish : AVal → Bool
  | .agg _ => false
  | .tup _ => false
  | .undef => false
  | .dead => false
  | .bsl _ _ => false
  | .eptr _ _ _ _ => false
  | .ptr _ _ => false
  | .sub _ _ _ _ _ => false
  | .csl _ _ _ _ _ => false
  | .mapr _ => false
  | .yld _ _ _ _ => false
  | _ => true

mutual
/-- No reference into the abstract store. -/
def noref : AVal → Bool
  | .func _ first caps => norefL first && norefL caps
  | .agg cs => norefL cs
  | .tup vs => norefL vs
  | .iface _ v => noref v
  | .ptr _ _ => false
  | .eptr _ _ _ _ => false
  | .bsl _ _ => false
  | .sub _ _ _ _ _ => false
  | .csl _ _ _ _ _ => false
  | .mapr _ => false
  | .yld _ _ _ _ => false
  | .dead => false
  | _ => true
def norefL : List AVal → Bool
  | [] => true
  | x :: xs => noref x && norefL xs
end

def memless0 : AVal → Bool
  | .int _ _ => true
  | .bool _ => true
  | .str _ => true
  | .nilptr => true
  | .nilfunc => true
  | .nilif => true
  | .nilmap => true
  | .undef => true
  | _ => false
def memless1 : AVal → Bool
  | .agg cs => cs.all memless0
  | v => memless0 v
/-- A value that leads to no memory. -/
def memless : AVal → Bool
  | .tup vs => vs.all memless1
  | v => memless1 v

/-- What a value is when the abstract store is given up: references become what they lead to. -/
def view (sto : List Blk) : Nat → AVal → AVal
  | 0, _ => .dead
  | d + 1, x =>
    match x with
    | .bsl b n => (match sto[b]? with
      | some (.buf _ sz rows cap) => if rows.length = n then .slc sz rows cap else .dead
      | some (.nbuf _ sz) => if n = 0 then .slc sz [] (some 0) else .dead
      | _ => .dead)
    | .ptr b off => (match sto[b]? with
      | some (.cells _ cs) => if (cs.map (view sto d)).all (fun x => cellish x && noref x) = true then .rptr ((cs.map (view sto d)).drop off) else .dead
      | _ => .dead)
    | .eptr _ _ _ _ => .dead
    | .sub _ _ _ _ _ => .dead
    | .csl _ _ _ _ _ => .dead
    | .mapr _ => .dead
    | .yld _ _ _ _ => .dead
    | .agg cs => .agg (cs.map (view sto d))
    | .tup vs => .tup (vs.map (view sto d))
    | .func f first caps => .func f (first.map (view sto d)) (caps.map (view sto d))
    | .iface t v => .iface t (view sto d v)
    | x => x

/-- The blocks of the store that `view` looks into. -/
def refsOf (sto : List Blk) : Nat → AVal → List Nat
  | 0, _ => []
  | d + 1, x =>
    match x with
    | .bsl b _ => [b]
    | .ptr b _ => b :: (match sto[b]? with
      | some (.cells _ cs) => (cs.map (refsOf sto d)).flatten
      | _ => [])
    | .eptr b _ _ _ => [b]
    | .sub b _ _ _ _ => [b]
    | .csl b _ _ _ _ => [b]
    | .mapr b => [b]
    | .agg cs => (cs.map (refsOf sto d)).flatten
    | .tup vs => (vs.map (refsOf sto d)).flatten
    | .func _ first caps => (first.map (refsOf sto d)).flatten ++ (caps.map (refsOf sto d)).flatten
    | .iface _ v => refsOf sto d v
    | _ => []

/-! Reading and writing through a pointer. -/
def rdCells (sto : List Blk) (p : AVal) (n : Nat) : Option (List AVal) :=
  match p with
  | .ptr b off => (match sto[b]? with | some (.cells _ cs) => takeN n (cs.drop off) | _ => none)
  | .eptr b m i j => (match sto[b]? with
    | some (.buf _ _ rows _) => if rows.length = m then (match rows[i]? with | some r => takeN n (r.drop j) | none => none) else none
    | some (.arr _ _ rows) => if rows.length = m then (match rows[i]? with | some r => takeN n (r.drop j) | none => none) else none
    | _ => none)
  | .rptr cs => takeN n cs
  | _ => none

def wrCells (sto : List Blk) (p : AVal) (vs : List AVal) : Option (Nat × Blk) :=
  match p with
  | .ptr b off => (match sto[b]? with | some (.cells t cs) => if off + vs.length ≤ cs.length then some (b, .cells t (setAt cs off vs)) else none | _ => none)
  | .eptr b m i j => (match sto[b]? with
    | some (.buf t sz rows cap) => if rows.length = m then (match rows[i]? with
      | some r => if j + vs.length ≤ r.length then (if vs.all (fun x => cellish x && noref x) = true then some (b, .buf t sz (rows.set i (setAt r j vs)) cap) else none) else none
      | none => none) else none
    | some (.arr t sz rows) => if rows.length = m then (match rows[i]? with
      | some r => if j + vs.length ≤ r.length then some (b, .arr t sz (rows.set i (setAt r j vs))) else none
      | none => none) else none
    | _ => none)
  | _ => none

def ptrAdd (sto : List Blk) (p : AVal) (off : Nat) : Option AVal :=
  match p with
  | .ptr b o => some (.ptr b (o + off))
  | .eptr b n i j => if curOf sto b = some n then some (.eptr b n i (j + off)) else none
  | .rptr cs => some (.rptr (cs.drop off))
  | _ => none

/-- What a slice holds, read through the store: how many cells a row has, and the rows. -/
def rowsOf (sto : List Blk) : AVal → Option (Nat × List (List AVal))
  | .slc sz rows _ => some (sz, rows)
  | .bsl b n => (match sto[b]? with
    | some (.buf _ sz rows _) => if rows.length = n then some (sz, rows) else none
    | some (.nbuf _ sz) => if n = 0 then some (sz, []) else none
    | _ => none)
  | _ => none

def mkV (agg : Bool) (cs : List AVal) : Option AVal :=
  if agg = true then some (.agg cs) else (match cs with | [x] => some x | _ => none)

/-! Arithmetic. -/
def bitsA (op : BinOp) (k : IntKind) (x y : Int) : Int :=
  let a := BitVec.ofInt k.bits x
  let b := BitVec.ofInt k.bits y
  match op with
  | .and => k.wrap (a &&& b).toNat
  | .or => k.wrap (a ||| b).toNat
  | .xor => k.wrap (a ^^^ b).toNat
  | _ => k.wrap (a &&& ~~~b).toNat

def intA (op : BinOp) (k : IntKind) (x y : Int) : Option AVal :=
  match op with
  | .add => some (.int k (k.wrap (x + y)))
  | .sub => some (.int k (k.wrap (x - y)))
  | .mul => some (.int k (k.wrap (x * y)))
  | .quo => if y = 0 then none else some (.int k (k.wrap (x.tdiv y)))
  | .rem => if y = 0 then none else some (.int k (x.tmod y))
  | .and => some (.int k (bitsA .and k x y))
  | .or => some (.int k (bitsA .or k x y))
  | .xor => some (.int k (bitsA .xor k x y))
  | .andNot => some (.int k (bitsA .andNot k x y))
  | .eql => some (.bool (decide (x = y)))
  | .neq => some (.bool (decide (x ≠ y)))
  | .lss => some (.bool (decide (x < y)))
  | .leq => some (.bool (decide (x ≤ y)))
  | .gtr => some (.bool (decide (x > y)))
  | .geq => some (.bool (decide (x ≥ y)))
  | _ => none

def shiftA (op : BinOp) (k : IntKind) (x y : Int) : Option AVal :=
  if y < 0 then none else
  match op with
  | .shl => some (.int k (k.wrap (x * 2 ^ (min y.toNat k.bits))))
  | .shr => some (.int k (x.fdiv (2 ^ (min y.toNat k.bits))))
  | _ => none

def strA (op : BinOp) (x y : List UInt8) : Option AVal :=
  match op with
  | .add => if x.length + y.length ≤ 9223372036854775807 then some (.str (x ++ y)) else none
  | .eql => some (.bool (decide (x = y)))
  | .neq => some (.bool (decide (x ≠ y)))
  | .lss => some (.bool (Op.bytesLess x y))
  | .leq => some (.bool (Op.bytesLess x y || decide (x = y)))
  | .gtr => some (.bool (!(Op.bytesLess x y || decide (x = y))))
  | .geq => some (.bool (!(Op.bytesLess x y)))
  | _ => none

/-- '==' cell by cell. -/
def eqL : List LK → List AVal → List AVal → Option Bool
  | [], [], [] => some true
  | k :: ks, x :: xs, y :: ys =>
    match k, x, y, eqL ks xs ys with
    | .i, .int k a, .int k' b, some r => if k = k' then some (decide (a = b) && r) else none
    | .b, .bool a, .bool b, some r => some (decide (a = b) && r)
    | .s, .str a, .str b, some r => some (decide (a = b) && r)
    | _, _, _, _ => none
  | _, _, _ => none

def boolT (P : Program) (t : TypeId) : Bool := match P.underlying t with | some .bool => true | _ => false
def funcT (P : Program) (t : TypeId) : Bool := match P.underlying t with | some (.func _ _ _) => true | _ => false

def eqA (P : Program) (t : TypeId) (x y : AVal) : Option Bool :=
  match x, y with
  | .bool a, .bool b => if boolT P t = true then some (decide (a = b)) else none
  | .agg cs, .agg ds => (lay P t).bind fun q => if q.1 = true then (leavesT P 8 t).bind fun ks => eqL ks cs ds else none
  | .func _ _ _, .nilfunc => if funcT P t = true then some false else none
  | .nilfunc, .nilfunc => if funcT P t = true then some true else none
  | _, _ => none

def ifaceT (P : Program) (t : TypeId) : Bool := match P.underlying t with | some (.interface _) => true | _ => false
def nilO : Operand → Bool
  | .const .nilIface => true
  | _ => false
def nilS : Operand → Bool
  | .const (.slice none _ _) => true
  | _ => false
/-- A slice that is not nil. -/
def slcX (sto : List Blk) : AVal → Bool
  | .sub b n _ _ _ => curOf sto b == some n
  | .csl _ _ _ _ _ => true
  | .slc _ (_ :: _) _ => true
  | _ => false
def ptrT (P : Program) (t : TypeId) : Bool := match P.underlying t with | some (.pointer e) => Nat.blt 0 (szOf P e) | _ => false
def eqlB (op : BinOp) (r : Bool) : Option AVal := match op with | .eql => some (.bool r) | .neq => some (.bool (!r)) | _ => none
/-- '==' of references: an interface value, a slice beside the literal nil; pointers. -/
def nilA (P : Program) (sto : List Blk) (op : BinOp) (t : TypeId) (y : Operand) (a b : AVal) : Option AVal :=
  match a, b with
  | .nilif, .nilif => if (nilO y && ifaceT P t) = true then eqlB op true else none
  | .iface _ _, .nilif => if ifaceT P t = true then eqlB op false else none
  | .nilptr, .nilptr => if ptrT P t = true then eqlB op true else none
  | .ptr _ _, .nilptr => if ptrT P t = true then eqlB op false else none
  | .ptr i o, .ptr i' o' => if (ptrT P t && (Nat.beq i i' && Nat.beq o o')) = true then eqlB op true else none
  | a, _ => if (nilS y && (slcX sto a && (elemT P t).isSome)) = true then eqlB op false else none

def binA (P : Program) (op : BinOp) (t : TypeId) (x y : AVal) : Option AVal :=
  match x, y with
  | .int k a, .int k' b =>
    (match op with
    | .shl => shiftA .shl k a b
    | .shr => shiftA .shr k a b
    | op => if k = k' then intA op k a b else none)
  | .str a, .str b => strA op a b
  | x, y =>
    (match op with
    | .eql => (eqA P t x y).map .bool
    | .neq => (eqA P t x y).map fun r => .bool (!r)
    | _ => none)

def unA (op : UnOp) (x : AVal) : Option AVal :=
  match op, x with
  | .neg, .int k n => some (.int k (k.wrap (0 - n)))
  | .xor, .int k n => some (.int k (bitsA .xor k (if k.signed then -1 else k.max) n))
  | .not, .bool b => some (.bool (!b))
  | _, _ => none

/-! Strings and slices of bytes or runes. -/
def bytesOfRows : List (List AVal) → Option (List UInt8)
  | [] => some []
  | [.int .u8 n] :: rest => (bytesOfRows rest).map (UInt8.ofNat n.toNat :: ·)
  | _ => none
def runesOfRows : List (List AVal) → Option (List Int)
  | [] => some []
  | [.int .i32 n] :: rest => (runesOfRows rest).map (n :: ·)
  | _ => none
def bytesRow (b : UInt8) : List AVal := [.int .u8 b.toNat]
def runeRow (n : Int) : List AVal := [.int .i32 n]
def encRune (n : Int) : List UInt8 := (Utf8.encode n).data.toList
def decodeL (s : List UInt8) (pos : Nat) : Nat × Nat := Utf8.decode ⟨s.toArray⟩ pos
def runesL (s : List UInt8) : (bound i : Nat) → List Int
  | 0, _ => []
  | bound + 1, i => if i < s.length then ((decodeL s i).1 : Int) :: runesL s bound (i + (decodeL s i).2) else []

/-- Where a slice that is made goes: into a buffer of the store, or it is told by what it holds. -/
def place (own : Bool) (id : Nat) (t : TypeId) (sz : Nat) (rows : List (List AVal)) (cap : Option Nat) : AVal × List (Nat × Blk) :=
  if own = true then (.bsl id rows.length, [(id, .buf t sz rows cap)]) else (.slc sz rows cap, [])

def okT (P : Program) (t : TypeId) : Bool := (P.underlying t).isSome

def convA (P : Program) (sto : List Blk) (own : Bool) (src dst : TypeId) (x : AVal) : Option AVal :=
  if okT P src = true then
    (match x with
    | .int _ n => (match intT P dst with
      | some k => some (.int k (k.wrap n))
      | none => if strT P dst = true then some (.str (encRune n)) else none)
    | .str s => if strT P dst = true then some (.str s) else
      (match elemT P dst with
      | some e => if own = true then none else if s.length ≤ 9223372036854775807 then (match intT P e with
        | some .u8 => some (.slc 1 (s.map bytesRow) none)
        | some .i32 => some (.slc 1 ((runesL s s.length 0).map runeRow) none)
        | _ => none) else none
      | none => none)
    | x => if strT P dst = true then
        (match elemT P src, rowsOf sto x with
        | some e, some (sz, rows) => if sz = 1 ∨ rows.length = 0 then (match intT P e with
          | some .u8 => (bytesOfRows rows).map fun s => .str s
          | some .i32 => (runesOfRows rows).map fun l => .str (l.map encRune).flatten
          | _ => none) else none
        | _, _ => none)
      else none)
  else none

/-- A literal of bytes that came from a string: its buffer is given up. -/
def markA (P : Program) (sto : List Blk) (src dst : TypeId) (x : AVal) : Option (AVal × List (Nat × Blk)) :=
  match x with
  | .bsl b n => (match sto[b]? with
    | some (.buf _ sz rows cap) => if src = dst ∧ (elemT P src).bind (intT P) = some .u8 ∧ rows.length = n then some (.slc sz rows cap, [(b, .gone)]) else none
    | _ => none)
  | _ => none

/-! Slicing. -/
def asNat : AVal → Option Nat
  | .int _ n => if 0 ≤ n then some n.toNat else none
  | _ => none
def optNat (d : Nat) : Option AVal → Option Nat
  | none => some d
  | some v => asNat v

def chunks (sz : Nat) : Nat → List AVal → List (List AVal)
  | 0, _ => []
  | n + 1, cs => cs.take sz :: chunks sz n (cs.drop sz)

/-- `x[lo:hi]`, `x[lo:hi:mx]` of rows: the rows, and the capacity. -/
def cutRows (sz : Nat) (rows : List (List AVal)) (cap : Option Nat) (lo hi mx : Option AVal) : Option AVal :=
  match optNat 0 lo, optNat rows.length hi with
  | some l, some h =>
    if l ≤ h then
      (match mx with
      | none => if h ≤ rows.length then some (.slc sz ((rows.take h).drop l) (cap.map (· - l))) else none
      | some m => (match hi, asNat m with
        | some _, some m => if h ≤ m then (if m ≤ rows.length then some (.slc sz ((rows.take h).drop l) (some (m - l))) else none) else none
        | _, _ => none))
    else none
  | _, _ => none

def sliceA (P : Program) (sto : List Blk) (t : TypeId) (x : AVal) (lo hi mx : Option AVal) : Option (AVal × List (Nat × Blk)) :=
  match x with
  | .str s => if strT P t = true then
      (match mx with
      | none => (match optNat 0 lo, optNat s.length hi with
        | some l, some h => if l ≤ h then (if h ≤ s.length then some (.str ((s.take h).drop l), []) else none) else none
        | _, _ => none)
      | some _ => none)
    else none
  | .slc sz rows cap => (elemT P t).bind fun e => if lay P e = none then none else if sz = szOf P e ∨ rows.length = 0 then (cutRows sz rows cap lo hi mx).map (·, []) else none
  | .bsl b n => (match sto[b]? with
    | some (.buf _ sz rows cap) => if rows.length = n then ((elemT P t).bind fun e => if sz = szOf P e then (cutRows sz rows cap lo hi mx).map (·, [(b, .gone)]) else none) else none
    | some (.nbuf _ sz) => if n = 0 then ((elemT P t).bind fun e => if sz = szOf P e then (if 0 < sz then (cutRows sz [] (some 0) lo hi mx).map (·, [(b, .gone)]) else none) else none) else none
    | _ => none)
  | .rptr cs => (match arrT P t with
    | some (n, e) => if cs.length = n * szOf P e then (if 0 < szOf P e ∧ n ≤ 16777216 then (cutRows (szOf P e) (chunks (szOf P e) n cs) (some n) lo hi mx).map (·, []) else none) else none
    | none => none)
  | .ptr b off => (match sto[b]? with
    | some (.cells _ cs) => if cs.all (fun x => cellish x && noref x) = true then (match arrT P t with
      | some (n, e) => if (cs.drop off).length = n * szOf P e then (if 0 < szOf P e ∧ n ≤ 16777216 then (cutRows (szOf P e) (chunks (szOf P e) n (cs.drop off)) (some n) lo hi mx).map (·, [(b, .gone)]) else none) else none
      | none => none) else none
    | _ => none)
  | _ => none

/-- A type's zero value fills what the type says. -/
def zokT (P : Program) (t : TypeId) : Bool := match zeroT P t with | some z => z.length == szOf P t | none => false

def maxRoom : Nat := 140737488355328

/-- What is appended. -/
def newRows (P : Program) (sto : List Blk) (tx : TypeId) (x : AVal) : Option (Nat × List (List AVal)) :=
  match x with
  | .str s => if strT P tx = true then some (1, s.map bytesRow) else none
  | x => if (elemT P tx).isSome = true then rowsOf sto x else none

def appendA (P : Program) (sto : List Blk) (id : Nat) (t tx : TypeId) (s x : AVal) : Option (AVal × List (Nat × Blk)) :=
  match elemT P t, newRows P sto tx x with
  | some e, some (sx, new) =>
    if 0 < szOf P e then (if zokT P e = true then (if sx = szOf P e ∨ new.length = 0 then
      (match s with
      | .bsl b n => (match sto[b]? with
        | some (.buf te sz rows _) =>
          if rows.length = n then (if te = e then (if sz = szOf P e then (if (rows.length + new.length) * byOf P e ≤ maxRoom then (if rows.length + new.length ≤ 9223372036854775807 then
            some (.bsl b (rows ++ new).length, [(b, .buf te sz (rows ++ new) none)]) else none) else none) else none) else none) else none
        | some (.nbuf te sz) =>
          if n = 0 then (if te = e then (if sz = szOf P e then (if new.length * byOf P e ≤ maxRoom then (if new.length ≤ 9223372036854775807 then
            (if new = [] then some (.bsl b 0, []) else some (.bsl b new.length, [(b, .buf te sz new none)])) else none) else none) else none) else none) else none
        | _ => none)
      | .slc sz rows (some c) =>
        if new = [] then some (.slc sz rows (some c), []) else
        if sz = szOf P e ∨ rows.length = 0 then (if c < rows.length + new.length then (if (rows.length + new.length) * byOf P e ≤ maxRoom then (if rows.length + new.length ≤ 9223372036854775807 then
          some (.bsl id (rows ++ new).length, [(id, .buf e (szOf P e) (rows ++ new) none)]) else none) else none) else none) else none
      | _ => none)
    else none) else none) else none
  | _, _ => none

def lenA (P : Program) (t : TypeId) (x : AVal) : Option AVal :=
  match x with
  | .str s => if strT P t = true then some (.int .i64 s.length) else none
  | .slc _ rows _ => if (elemT P t).isSome = true then some (.int .i64 rows.length) else none
  | .agg _ => (arrT P t).map fun p => .int .i64 p.1
  | _ => none

def lenS (P : Program) (sto : List Blk) (t : TypeId) (x : AVal) : Option AVal :=
  match x with
  | .bsl b n => if (elemT P t).isSome = true then (if curOf sto b = some n then some (.int .i64 n) else none) else none
  | x => lenA P t x

def capA (P : Program) (sto : List Blk) (t : TypeId) (x : AVal) : Option AVal :=
  match x with
  | .slc _ _ (some c) => if (elemT P t).isSome = true then some (.int .i64 c) else none
  | .bsl b n => (match sto[b]? with
    | some (.buf _ _ rows (some c)) => if rows.length = n then (if (elemT P t).isSome = true then some (.int .i64 c) else none) else none
    | some (.nbuf _ _) => if n = 0 then (if (elemT P t).isSome = true then some (.int .i64 0) else none) else none
    | _ => none)
  | _ => none

def makeA (P : Program) (id : Nat) (t : TypeId) (l c : AVal) : Option (AVal × List (Nat × Blk)) :=
  match elemT P t, l, c with
  | some e, .int _ l, .int _ c =>
    if 0 ≤ l then (if l ≤ c then (if c ≤ 9223372036854775807 then (if 0 < szOf P e then (if c.toNat * byOf P e ≤ maxRoom then
      (zeroT P e).bind fun z => if z.length = szOf P e then (if z.all (fun x => cellish x && noref x) = true then
        some (.bsl id l.toNat, [(id, .buf e (szOf P e) (List.replicate l.toNat z) (some c.toNat))]) else none) else none
      else none) else none) else none) else none) else none
  | _, _, _ => none

def minA : List AVal → Option AVal
  | [.int k a, .int k' b] => if k = k' then some (.int k (if b < a then b else a)) else none
  | _ => none
def maxA : List AVal → Option AVal
  | [.int k a, .int k' b] => if k = k' then some (.int k (if b > a then b else a)) else none
  | _ => none

def builtinA (P : Program) (sto : List Blk) (id : Nat) (b : Builtin) (ts : List TypeId) (args : List AVal) : Option (AVal × List (Nat × Blk)) :=
  match b, ts, args with
  | .len, [t], [x] => (lenS P sto t x).map (·, [])
  | .cap, [t], [x] => (capA P sto t x).map (·, [])
  | .append, [t, tx], [s, x] => appendA P sto id t tx s x
  | .min, _, args => (minA args).map (·, [])
  | .max, _, args => (maxA args).map (·, [])
  | _, _, _ => none

/-- A value of which the cells are known: no stale reference. -/
def cellsOK (sto : List Blk) : AVal → Bool
  | .dead => false
  | .bsl b n => curOf sto b == some n
  | .eptr b n _ _ => curOf sto b == some n
  | .sub b n _ _ _ => curOf sto b == some n
  | _ => true

/-- Where a part of a struct or an array lies, and how many cells it has. -/
def partA (P : Program) (t : TypeId) (f : Nat) : Option (Nat × Nat) :=
  match structT P t with
  | some pl => pl[f]?
  | none => (arrT P t).bind fun p => (lay P p.2).map fun q => (f * q.2, q.2)

def goB (P : Program) (sto : List Blk) (t : TypeId) : List AVal → List (Nat × AVal) → Option (List AVal)
  | cs, [] => some cs
  | cs, (f, v) :: rest =>
    match partA P t f with
    | some (off, n) => if cellsOK sto v = true then (if v.cells.length = n then (if off + v.cells.length ≤ cs.length then goB P sto t (setAt cs off v.cells) rest else none) else none) else none
    | none => none

def buildA (P : Program) (sto : List Blk) (t : TypeId) (parts : List (Nat × AVal)) : Option (List AVal) :=
  if (structT P t).isSome || ((arrT P t).bind fun p => lay P p.2).isSome then (zeroT P t).bind fun z => goB P sto t z parts else none

def goR (P : Program) (sto : List Blk) (e : TypeId) : List (List AVal) → List (Nat × AVal) → Option (List (List AVal))
  | rows, [] => some rows
  | rows, (i, v) :: rest => if cellsOK sto v = true then (if v.cells.length = szOf P e then (if i < rows.length then goR P sto e (rows.set i v.cells) rest else none) else none) else none

def rowsA (P : Program) (sto : List Blk) (e : TypeId) (len : Nat) (parts : List (Nat × AVal)) : Option (List (List AVal)) :=
  (zeroT P e).bind fun z => if z.length = szOf P e then goR P sto e (List.replicate len z) parts else none

def idxA (P : Program) (sto : List Blk) (t : TypeId) (x : AVal) (i : Int) : Option AVal :=
  if 0 ≤ i then
    match x with
    | .slc sz rows _ => (elemT P t).bind fun e => if sz = szOf P e then (if 0 < sz then (match rows[i.toNat]? with | some r => some (.rptr r) | none => none) else none) else none
    | .bsl b n => (elemT P t).bind fun e => (match sto[b]? with
      | some (.buf _ sz rows _) => if rows.length = n then (if sz = szOf P e then (if i.toNat < n then some (.eptr b n i.toNat 0) else none) else none) else none
      | _ => none)
    | x => (match arrT P t with
      | some (n, e) => if i.toNat < n then (lay P e).bind fun q => ptrAdd sto x (i.toNat * q.2) else none
      | none => none)
  else none

def indexA (P : Program) (t : TypeId) (x : AVal) (i : Int) : Option AVal :=
  if 0 ≤ i then
    match x with
    | .str s => if strT P t = true then (match s[i.toNat]? with | some b => some (.int .u8 b.toNat) | none => none) else none
    | .agg cs => (match arrT P t with
      | some (n, e) => if i.toNat < n then (lay P e).bind fun q => (takeN (if q.1 = true then q.2 else 1) (cs.drop (i.toNat * q.2))).bind (mkV q.1) else none
      | none => none)
    | _ => none
  else none

/-- What an operation that is no call of a function gives, and what it writes into the store. `id`: the number of a block that it makes; `own`: whether a slice that it makes goes into a buffer. -/
def den (C : Ctx) (ρ : Operand → AVal) (sto : List Blk) (id : Nat) (own : Bool) (op : Op) : Option (AVal × List (Nat × Blk)) :=
  match op with
  | .move x => some (ρ x, [])
  | .assign x => some (ρ x, [])
  | .pick c a b => (match ρ c with | .bool t => some (if t = true then ρ a else ρ b, []) | _ => none)
  | .alloc t => (zeroT C.P t).map fun cs => (.ptr id 0, [(id, .cells t cs)])
  | .box t x => if (ρ x).cells.all (solid sto) = true then some (.ptr id 0, [(id, .cells t (ρ x).cells)]) else none
  | .build t parts => (buildA C.P sto t (parts.toList.map fun p => (p.1, ρ p.2))).map fun cs => (.agg cs, [])
  | .buildSlice t len parts =>
    (match elemT C.P t with
    | some e => (rowsA C.P sto e len (parts.toList.map fun p => (p.1, ρ p.2))).bind fun rows =>
      if 0 < szOf C.P e then (if len * szOf C.P e ≤ 16777216 then (if rows.all (fun r => r.all cellish && norefL r) = true then some (place own id e (szOf C.P e) rows (some len)) else none) else none) else none
    | none => none)
  | .load t a => (lay C.P t).bind fun q => (rdCells sto (ρ a) (if q.1 = true then q.2 else 1)).bind fun cs => (mkV q.1 cs).map (·, [])
  | .store t a x =>
    (lay C.P t).bind fun q => if (ρ x).cells.length = q.2 then
      (if (ρ x).cells.all (solid sto) = true then (wrCells sto (ρ a) (ρ x).cells).map fun w => (.undef, [w]) else none)
    else none
  | .nilCheck x => (match ρ x with
    | .ptr b o => some (.ptr b o, [])
    | .rptr cs => some (.rptr cs, [])
    | .func f a b => some (.func f a b, [])
    | _ => none)
  | .binOp op t x y _ => ((nilA C.P sto op t y (ρ x) (ρ y)).or (binA C.P op t (ρ x) (ρ y))).map (·, [])
  | .unOp op _ x => (unA op (ρ x)).map (·, [])
  | .convert src dst x => (match markA C.P sto src dst (ρ x) with
    | some r => some r
    | none => (convA C.P sto own src dst (ρ x)).map (·, []))
  | .makeFunc fn first caps => (match fn with
    | .func f => some (.func f (first.toList.map ρ) (caps.toList.map ρ), [])
    | _ => none)
  | .makeSlice t l c => makeA C.P id t (ρ l) (ρ c)
  | .slice t x lo hi mx => sliceA C.P sto t (ρ x) (lo.map ρ) (hi.map ρ) (mx.map ρ)
  | .fieldAddr t x f => (match fieldT C.P t f with
    | some (off, ft) => if szOf C.P ft = 0 then none else (ptrAdd sto (ρ x) off).map (·, [])
    | none => none)
  | .field t x f => (match fieldT C.P t f, ρ x with
    | some (off, ft), .agg cs => (lay C.P ft).bind fun q => ((takeN (if q.1 = true then q.2 else 1) (cs.drop off)).bind (mkV q.1)).map (·, [])
    | _, _ => none)
  | .indexAddr t x i => (match ρ i with | .int _ n => (idxA C.P sto t (ρ x) n).map (·, []) | _ => none)
  | .index t x i => (match ρ i with | .int _ n => (indexA C.P t (ρ x) n).map (·, []) | _ => none)
  | .range t x => (match ρ x with | .str s => if strT C.P t = true then some (.ptr id 0, [(id, .iter s 0)]) else none | _ => none)
  | .next it true => (match ρ it with
    | .ptr b 0 => (match sto[b]? with
      | some (.iter s pos) => if pos < s.length then some (.tup [.bool true, .int .i64 pos, .int .i32 (decodeL s pos).1], [(b, .iter s (pos + (decodeL s pos).2))]) else some (.tup [.bool false], [])
      | _ => none)
    | _ => none)
  | .extract x i => (match ρ x with | .tup vs => (vs[i]?).map (·, []) | _ => none)
  | .call c => (match c.callee with
    | .builtin b => builtinA C.P sto id b c.argTypes.toList (c.args.toList.map ρ)
    | _ => none)
  | _ => none

/-! Arrays that slices lie in, of any values; maps. -/
def newRowsX (P : Program) (sto : List Blk) (tx : TypeId) (x : AVal) : Option (Nat × List (List AVal)) :=
  match x with
  | .sub b n lo len _ => if (elemT P tx).isSome = true then (match sto[b]? with
    | some (.arr _ sz rows) => if rows.length = n then some (sz, (rows.drop lo).take len) else none
    | _ => none) else none
  | .csl b off sz len _ => if (elemT P tx).isSome = true then (if sz = 1 then (match sto[b]? with
    | some (.cells _ cs) => if off + len ≤ cs.length then (if ((cs.drop off).take len).all (solid sto) = true then some (1, ((cs.drop off).take len).map fun c => [c]) else none) else none
    | _ => none) else none) else none
  | x => newRows P sto tx x

def arrX : AVal → Bool
  | .sub _ _ _ _ _ => true
  | .csl _ _ _ _ _ => true
  | _ => false
/-- The bytes of a part of an array as a string. -/
def convX (P : Program) (sto : List Blk) (src dst : TypeId) (x : AVal) : Option AVal :=
  if arrX x = true then (if strT P dst = true then (match elemT P src with
    | some e => (match intT P e with
      | some .u8 => (match newRowsX P sto src x with
        | some (sx, rows) => if sx = 1 then (bytesOfRows rows).map .str else none
        | none => none)
      | _ => none)
    | none => none) else none) else none

def appendC (id : Nat) (e : TypeId) (new : List (List AVal)) (b n lo len : Nat) (cap : Option Nat) (te sz : Nat) (rows : List (List AVal)) : Option (AVal × List (Nat × Blk)) :=
  match cap with
  | some c => if len + new.length ≤ c then
      (if lo = 0 then (if len = n then some (.sub b (n + new.length) 0 (n + new.length) (some c), [(b, .arr te sz (rows ++ new))]) else none) else none)
    else some (.sub id (len + new.length) 0 (len + new.length) none, [(id, .arr e sz ((rows.drop lo).take len ++ new))])
  | none => if lo = 0 then (if len = n then some (.sub b (n + new.length) 0 (n + new.length) none, [(b, .arr te sz (rows ++ new))]) else none) else none

def appendB (P : Program) (sto : List Blk) (id : Nat) (e : TypeId) (new : List (List AVal)) (s : AVal) : Option (AVal × List (Nat × Blk)) :=
  match s with
  | .slc sz [] (some 0) => if new = [] then some (.slc sz [] (some 0), []) else
    (if new.length * byOf P e ≤ maxRoom then (if new.length ≤ 9223372036854775807 then some (.sub id new.length 0 new.length none, [(id, .arr e (szOf P e) new)]) else none) else none)
  | .sub b n lo len cap => (match sto[b]? with
    | some (.arr te sz rows) =>
      if rows.length = n then (if te = e then (if sz = szOf P e then (if (len + new.length) * byOf P e ≤ maxRoom then (if len + new.length ≤ 9223372036854775807 then
        appendC id e new b n lo len cap te sz rows
      else none) else none) else none) else none) else none
    | _ => none)
  | _ => none

def appendX (P : Program) (sto : List Blk) (id : Nat) (t tx : TypeId) (s x : AVal) : Option (AVal × List (Nat × Blk)) :=
  match elemT P t, newRowsX P sto tx x with
  | some e, some (sx, new) => if 0 < szOf P e then (if zokT P e = true then (if sx = szOf P e ∨ new.length = 0 then appendB P sto id e new s else none) else none) else none
  | _, _ => none

def subCut (b n l0 len : Nat) (cap : Option Nat) (lo hi mx : Option AVal) : Option AVal :=
  match optNat 0 lo, optNat len hi with
  | some l, some h =>
    if l ≤ h then (if h ≤ len then
      (match mx with
      | none => some (.sub b n (l0 + l) (h - l) (cap.map (· - l)))
      | some m => (match hi, asNat m with
        | some _, some m => if h ≤ m then (if m ≤ len then some (.sub b n (l0 + l) (h - l) (some (m - l))) else none) else none
        | _, _ => none))
    else none) else none
  | _, _ => none

def sliceX (P : Program) (sto : List Blk) (t : TypeId) (x : AVal) (lo hi mx : Option AVal) : Option (AVal × List (Nat × Blk)) :=
  match x with
  | .sub b n l0 len cap => (elemT P t).bind fun e => (match sto[b]? with
    | some (.arr _ sz rows) => if rows.length = n then (if sz = szOf P e then (subCut b n l0 len cap lo hi mx).map (·, []) else none) else none
    | _ => none)
  | .ptr b off => (match arrT P t with
    | some (n, e) => if 0 < szOf P e then (match optNat 0 lo, optNat n hi, mx with
      | some l, some h, none => if l ≤ h then (if h ≤ n then (if l < n then some (.csl b (off + l * szOf P e) (szOf P e) (h - l) (n - l), []) else none) else none) else none
      | _, _, _ => none) else none
    | none => none)
  | .csl b off sz len cap => (elemT P t).bind fun e => if sz = szOf P e then (if 0 < sz then (match optNat 0 lo, optNat len hi with
    | some l, some h => if l ≤ h then (if h ≤ len then (match mx with
      | none => if l < cap then some (.csl b (off + l * sz) sz (h - l) (cap - l), []) else some (.slc sz [] (some 0), [])
      | some m => (match hi, asNat m with
        | some _, some m => if h ≤ m then (if m ≤ len then (if l < m then some (.csl b (off + l * sz) sz (h - l) (m - l), []) else some (.slc sz [] (some 0), [])) else none) else none
        | _, _ => none)) else none) else none
    | _, _ => none) else none) else none
  | _ => none

def idxX (P : Program) (sto : List Blk) (t : TypeId) (x : AVal) (i : Int) : Option AVal :=
  if 0 ≤ i then
    match x with
    | .sub b n lo len _ => (elemT P t).bind fun e => (match sto[b]? with
      | some (.arr _ sz rows) => if rows.length = n then (if sz = szOf P e then (if i.toNat < len then some (.eptr b n (lo + i.toNat) 0) else none) else none) else none
      | _ => none)
    | .csl b off sz len _ => (elemT P t).bind fun e => if sz = szOf P e then (if 0 < sz then (if i.toNat < len then some (.ptr b (off + i.toNat * sz)) else none) else none) else none
    | _ => none
  else none

def mapT (P : Program) (t : TypeId) : Option (TypeId × TypeId) := match P.underlying t with | some (.map k e) => some (k, e) | _ => none

def lenX (P : Program) (sto : List Blk) (t : TypeId) (x : AVal) : Option AVal :=
  match x with
  | .sub b n _ len _ => if (elemT P t).isSome = true then (if curOf sto b = some n then some (.int .i64 len) else none) else none
  | .csl _ _ _ len _ => if (elemT P t).isSome = true then some (.int .i64 len) else none
  | .mapr b => if (mapT P t).isSome = true then (match sto[b]? with | some (.map es _) => some (.int .i64 es.length) | _ => none) else none
  | .nilmap => if (mapT P t).isSome = true then some (.int .i64 0) else none
  | _ => none

def capX (P : Program) (sto : List Blk) (t : TypeId) (x : AVal) : Option AVal :=
  match x with
  | .sub b n _ _ (some c) => if (elemT P t).isSome = true then (if curOf sto b = some n then some (.int .i64 c) else none) else none
  | .csl _ _ _ _ c => if (elemT P t).isSome = true then some (.int .i64 c) else none
  | _ => none

def copyX (P : Program) (sto : List Blk) (t tx : TypeId) (d x : AVal) : Option (AVal × List (Nat × Blk)) :=
  match elemT P t, newRowsX P sto tx x with
  | some e, some (sx, new) =>
    (match d with
    | .sub b n lo len _ => (match sto[b]? with
      | some (.arr te sz rows) => if rows.length = n then (if te = e then (if sz = szOf P e then (if sx = szOf P e ∨ new.length = 0 then (if new.length ≤ len then
          some (.int .i64 new.length, [(b, .arr te sz (rows.take lo ++ new ++ rows.drop (lo + new.length)))]) else none) else none) else none) else none) else none
      | _ => none)
    | .csl b off sz len _ => (match sto[b]? with
      | some (.cells t0 cs) => if sz = szOf P e then (if 0 < sz then (if sx = szOf P e ∨ new.length = 0 then (if new.length ≤ len then (if off + new.length * sz ≤ cs.length then
          (if new.flatten.length = new.length * sz then some (.int .i64 new.length, [(b, .cells t0 (setAt cs off new.flatten))]) else none) else none) else none) else none) else none) else none
      | _ => none)
    | _ => none)
  | _, _ => none

def makeX (P : Program) (id : Nat) (t : TypeId) (l c : AVal) : Option (AVal × List (Nat × Blk)) :=
  match elemT P t, l, c with
  | some e, .int _ l, .int _ c =>
    if 0 ≤ l then (if l ≤ c then (if c ≤ 9223372036854775807 then (if 0 < szOf P e then (if c.toNat * byOf P e ≤ maxRoom then
      (zeroT P e).bind fun z => if z.length = szOf P e then (if z.all (fun x => cellish x && noref x) = true then
        some (.sub id l.toNat 0 l.toNat (some c.toNat), [(id, .arr e (szOf P e) (List.replicate l.toNat z))]) else none) else none
      else none) else none) else none) else none) else none
  | _, _, _ => none

def findX (P : Program) (kt : TypeId) (k : List AVal) : List (AVal × AVal × Nat) → Nat → Option (Option (Nat × AVal × Nat))
  | [], _ => some none
  | (.agg k', v, n) :: rest, i =>
    (match (leavesT P 8 kt).bind fun ks => eqL ks k k' with
    | some true => some (some (i, v, n))
    | some false => findX P kt k rest (i + 1)
    | none => none)
  | _ :: _, _ => none

def keyOK (P : Program) (kt : TypeId) (k : List AVal) : Bool :=
  match lay P kt with
  | some q => q.1 && (match leavesT P 8 kt with | some ks => ks.length == k.length | none => false)
  | none => false

/-- Keys that are no aggregates. -/
def sameS : AVal → AVal → Option Bool
  | .int q n, .int q' n' => if q = q' then some (decide (n = n')) else none
  | .str s, .str s' => some (decide (s = s'))
  | _, _ => none
def findS (k : AVal) : List (AVal × AVal × Nat) → Nat → Option (Option (Nat × AVal × Nat))
  | [], _ => some none
  | (k', v, n) :: rest, i =>
    (match sameS k k' with
    | some true => some (some (i, v, n))
    | some false => findS k rest (i + 1)
    | none => none)
def findK (P : Program) (kt : TypeId) (k : AVal) (es : List (AVal × AVal × Nat)) : Option (Option (Nat × AVal × Nat)) :=
  match k with
  | .agg ks => findX P kt ks es 0
  | k => findS k es 0
def keyK (P : Program) (kt : TypeId) (k : AVal) : Bool :=
  match k with
  | .agg ks => keyOK P kt ks
  | .int q _ => (match P.underlying kt with | some (.int q') => decide (q' = q) | _ => false)
  | .str _ => strT P kt
  | _ => false

def noTup : AVal → Bool
  | .tup _ => false
  | _ => true

def zeroV (P : Program) (e : TypeId) : Option AVal := ((P.info? e).bind (·.zero)).map ofVal

def lookM (P : Program) (sto : List Blk) (kt : TypeId) (k : AVal) : AVal → Option (Option (Nat × AVal × Nat))
  | .mapr b => (match sto[b]? with | some (.map es _) => findK P kt k es | _ => none)
  | .nilmap => some none
  | _ => none

def lookX (P : Program) (sto : List Blk) (t : TypeId) (m k : AVal) (ok : Bool) : Option AVal :=
  match mapT P t with
  | some (kt, e) =>
    if keyK P kt k = true then
      (lookM P sto kt k m).bind fun r =>
        (match r with
        | some (_, v, _) => some (if ok = true then .tup [v, .bool true] else v)
        | none => (zeroV P e).map fun z => if ok = true then .tup [z, .bool false] else z)
    else none
  | _ => none

def updX (P : Program) (sto : List Blk) (t : TypeId) (m k v : AVal) : Option (List (Nat × Blk)) :=
  match mapT P t, m with
  | some (kt, _), .mapr b =>
    if keyK P kt k = true then
      (match sto[b]? with
      | some (.map es clock) => (findK P kt k es).map fun r =>
        (match r with
        | some (i, _, n) => [(b, .map (es.set i (k, v, n)) clock)]
        | none => [(b, .map (es ++ [(k, v, clock)]) (clock + 1))])
      | _ => none)
    else none
  | _, _ => none

def entX (P : Program) (sto : List Blk) (t : TypeId) (m k : AVal) : Option (AVal × List (Nat × Blk)) :=
  match mapT P t, m with
  | some (kt, e), .mapr b =>
    if keyK P kt k = true then
      (match sto[b]? with
      | some (.map es clock) => (findK P kt k es).bind fun r =>
        (match r with
        | some (i, v, n) => some (.tup [v, .int .i64 n], [(b, .map (es.set i (k, v, n)) clock)])
        | none => (zeroV P e).map fun z => (.tup [z, .int .i64 clock], [(b, .map (es ++ [(k, z, clock)]) (clock + 1))]))
      | _ => none)
    else none
  | _, _ => none

def storeX (sto : List Blk) (m s v : AVal) : Option (List (Nat × Blk)) :=
  match m, s with
  | .mapr b, .int _ n =>
    (match sto[b]? with
    | some (.map es clock) => (es.findIdx? fun p => decide ((p.2.2 : Int) = n)).bind fun i => (es[i]?).map fun p => [(b, .map (es.set i (p.1, v, p.2.2)) clock)]
    | _ => none)
  | _, _ => none

def delX (P : Program) (sto : List Blk) (t : TypeId) (m k : AVal) : Option (List (Nat × Blk)) :=
  match mapT P t, m with
  | some (kt, _), .mapr b =>
    if keyK P kt k = true then
      (match sto[b]? with
      | some (.map es clock) => (findK P kt k es).map fun r =>
        (match r with
        | some (i, _, _) => [(b, .map (es.eraseIdx i) clock)]
        | none => [(b, .map es clock)])
      | _ => none)
    else none
  | _, _ => none

def clearX (P : Program) (sto : List Blk) (t : TypeId) (d : AVal) : Option (List (Nat × Blk)) :=
  match d with
  | .sub b n lo len _ => (match sto[b]? with
    | some (.arr te sz rows) => (match elemT P t with
      | some e => if rows.length = n then (if te = e then (if sz = szOf P e then (if 0 < len then
          (zeroT P e).bind fun z => if z.length = sz then (if z.all (fun x => cellish x && noref x) = true then
            some [(b, .arr te sz (rows.take lo ++ List.replicate len z ++ rows.drop (lo + len)))] else none) else none
        else none) else none) else none) else none
      | none => none)
    | _ => none)
  | _ => none

def builtinX (P : Program) (sto : List Blk) (id : Nat) (b : Builtin) (ts : List TypeId) (args : List AVal) : Option (AVal × List (Nat × Blk)) :=
  match b, ts, args with
  | .len, [t], [x] => (lenX P sto t x).map (·, [])
  | .cap, [t], [x] => (capX P sto t x).map (·, [])
  | .append, [t, tx], [s, x] => appendX P sto id t tx s x
  | .copy, [t, tx], [d, x] => copyX P sto t tx d x
  | .delete, [t, _], [m, k] => (delX P sto t m k).map fun ws => (.tup [], ws)
  | .clear, [t], [x] => (clearX P sto t x).map fun ws => (.tup [], ws)
  | _, _, _ => none

/-- The same for arrays that slices lie in, and for maps. -/
def denx (C : Ctx) (ρ : Operand → AVal) (sto : List Blk) (id : Nat) (op : Op) : Option (AVal × List (Nat × Blk)) :=
  match op with
  | .buildSlice t len parts =>
    (match elemT C.P t with
    | some e => (rowsA C.P sto e len (parts.toList.map fun p => (p.1, ρ p.2))).bind fun rows =>
      if 0 < szOf C.P e then (if len * szOf C.P e ≤ 16777216 then (if rows.all (fun r => r.all (solid sto)) = true then some (.sub id len 0 len (some len), [(id, .arr e (szOf C.P e) rows)]) else none) else none) else none
    | none => none)
  | .makeSlice t l c => makeX C.P id t (ρ l) (ρ c)
  | .convert src dst x => (convX C.P sto src dst (ρ x)).map (·, [])
  | .slice t x lo hi mx => sliceX C.P sto t (ρ x) (lo.map ρ) (hi.map ρ) (mx.map ρ)
  | .indexAddr t x i => (match ρ i with | .int _ n => (idxX C.P sto t (ρ x) n).map (·, []) | _ => none)
  | .makeMap t r => (match r with
    | none => if (mapT C.P t).isSome = true then some (.mapr id, [(id, .map [] 0)]) else none
    | some h => (match ρ h with | .int _ _ => if (mapT C.P t).isSome = true then some (.mapr id, [(id, .map [] 0)]) else none | _ => none))
  | .lookup t m k ok => (lookX C.P sto t (ρ m) (ρ k) ok).map (·, [])
  | .mapUpdate t m k v => (updX C.P sto t (ρ m) (ρ k) (ρ v)).map fun ws => (.undef, ws)
  | .mapEntry t m k => entX C.P sto t (ρ m) (ρ k)
  | .entryStore _ m s v => (storeX sto (ρ m) (ρ s) (ρ v)).map fun ws => (.undef, ws)
  | .insert t m k v => (updX C.P sto t (ρ m) (ρ k) (ρ v)).map fun ws => (.undef, ws)
  | .call c => (match c.callee with
    | .builtin b => builtinX C.P sto id b c.argTypes.toList (c.args.toList.map ρ)
    | _ => none)
  | _ => none

def St.eval (C : Ctx) (s : St) : Operand → AVal
  | .tmp t => s.tmps.getD t .dead
  | .const v => ofVal v
  | .global g => C.glob g
  | .func f => .func f [] []

def put (tmps : List AVal) (dst : Option Tmp) (v : AVal) : List AVal :=
  match dst with
  | some d => tmps.set d v
  | none => tmps

/-- A block is written, or (at the end of the store) made. -/
def wr1 (sto : List Blk) (b : Nat) (B : Blk) : List Blk := if b < sto.length then sto.set b B else sto ++ [B]
def wrs (sto : List Blk) : List (Nat × Blk) → List Blk
  | [] => sto
  | (b, B) :: rest => wrs (wr1 sto b B) rest

def gones (sto : List Blk) : List Nat → List Blk
  | [] => sto
  | b :: rest => gones (sto.set b .gone) rest

/-- Values that hold no reference into the store: read from blocks that are not written (`ok`). -/
inductive PV (w : World) (ok : Nat → Prop) : AVal → Value → Prop
  | int (k : IntKind) (n : Int) : PV w ok (.int k n) (.int k n)
  | bool (b : Bool) : PV w ok (.bool b) (.bool b)
  | str (s : ByteArray) (l : List UInt8) (h : s.data.toList = l) : PV w ok (.str l) (.string s)
  | nilptr : PV w ok .nilptr (.pointer none)
  | nilfunc : PV w ok .nilfunc .nilFunc
  | nilif : PV w ok .nilif .nilIface
  | nilmap : PV w ok .nilmap (.map none)
  | undef : PV w ok .undef undef
  | rptr (cells : List AVal) (a : Addr) (val : Nat → Value) (hok : ok a.block) (hcell : ∀ x, x ∈ cells → cellish x = true)
      (hr : ∀ (j : Nat) x, cells[j]? = some x → w.cell? (a.add j) = some (val j)) (hv : ∀ (j : Nat) x, cells[j]? = some x → PV w ok x (val j)) : PV w ok (.rptr cells) (.pointer (some a))
  | slc (sz : Nat) (rows : List (List AVal)) (cap : Option Nat) (A : Option Addr) (c : Nat) (val : Nat → Nat → Value)
      (hsz : ∀ r, r ∈ rows → r.length = sz) (hcell : ∀ r, r ∈ rows → ∀ x, x ∈ r → cellish x = true) (hc : rows.length ≤ c) (hcap : ∀ k, cap = some k → c = k)
      (hnil : A = none → c = 0) (hm : c ≤ maxLen)
      (hr : ∀ (i : Nat) r (j : Nat) x, rows[i]? = some r → r[j]? = some x → ∃ a, A = some a ∧ ok a.block ∧ w.cell? (a.add (i * sz + j)) = some (val i j))
      (hv : ∀ (i : Nat) r (j : Nat) x, rows[i]? = some r → r[j]? = some x → PV w ok x (val i j)) : PV w ok (.slc sz rows cap) (.slice A rows.length c)
  | func (f : FuncId) (first caps : List AVal) (fs cs : Array Value) (h1 : fs.size = first.length) (h2 : cs.size = caps.length)
      (h3 : ∀ (i : Nat) x v, first[i]? = some x → fs[i]? = some v → PV w ok x v) (h4 : ∀ (i : Nat) x v, caps[i]? = some x → cs[i]? = some v → PV w ok x v) :
      PV w ok (.func f first caps) (.func (.func f) fs cs)
  | agg (xs : List AVal) (vs : Array Value) (h1 : vs.size = xs.length) (h2 : ∀ (i : Nat) x v, xs[i]? = some x → vs[i]? = some v → PV w ok x v) : PV w ok (.agg xs) (.agg vs)
  | tup (xs : List AVal) (vs : Array Value) (h1 : vs.size = xs.length) (h2 : ∀ (i : Nat) x v, xs[i]? = some x → vs[i]? = some v → PV w ok x v) : PV w ok (.tup xs) (.tuple vs)
  | iface (t : TypeId) (x : AVal) (v : Value) (h : PV w ok x v) : PV w ok (.iface t x) (.iface t v)

/-- Less is known of a value. -/
def PLe (x y : AVal) : Prop := ∀ (w : World) (ok : Nat → Prop) (v : Value), PV w ok x v → PV w ok y v
def PLeL (xs ys : List AVal) : Prop := xs.length = ys.length ∧ ∀ (i : Nat) x y, xs[i]? = some x → ys[i]? = some y → PLe x y
theorem PLe.refl (x : AVal) : PLe x x := fun _ _ _ h => h
theorem PLeL.refl (xs : List AVal) : PLeL xs xs := ⟨rfl, fun i x y hx hy => by rw [hx] at hy; cases hy; exact .refl x⟩

/-- A call: of what leads to nothing in the caller's store (what is lent is taken back where the result leads to no memory, else it is gone), or with the whole store. -/
inductive CallStep (CF : FuncId → List AVal → List Blk → AVal → List Blk → Prop) (sto : List Blk) (g : FuncId) (args : List AVal) : AVal → List Blk → Prop
  | pure {r : AVal} (xs args' : List AVal) (hargs : args.map (view sto 4) = xs) (hno : norefL xs = true) (hle : PLeL xs args') (h : CF g args' [] r []) (hr : noref r = true) :
      CallStep CF sto g args r (if memless r = true then sto else gones sto ((args.map (refsOf sto 4)).flatten))
  | full {r : AVal} {sto' : List Blk} (h : CF g args sto r sto') : CallStep CF sto g args r sto'

/-- Whether an operation that is guarded runs. -/
inductive Guard where
  | run
  | skip
  | lost

def guardOf (ops : Array Oper) (tmps : List AVal) (o : Oper) : Guard :=
  match o.guard with
  | none => .run
  | some (j, want) =>
    match (ops[j]?).bind (·.dst) with
    | some d => (match tmps.getD d .dead with
      | .bool b => if b = want then .run else .skip
      | .undef => .skip
      | _ => .lost)
    | none => .lost

/-- One operation. -/
inductive OpStep (C : Ctx) (CF : FuncId → List AVal → List Blk → AVal → List Blk → Prop) (own : Tmp → Bool) (ops : Array Oper) (id : Nat) (o : Oper) : St → St → Prop
  | skip {s : St} (hg : guardOf ops s.tmps o = .skip) : OpStep C CF own ops id o s ⟨put s.tmps o.dst .undef, s.sto⟩
  | den {s : St} {v : AVal} {ws : List (Nat × Blk)} (hg : guardOf ops s.tmps o = .run)
      (h : den C (s.eval C) s.sto id (o.dst.elim false own) o.op = some (v, ws)) : OpStep C CF own ops id o s ⟨put s.tmps o.dst v, wrs s.sto ws⟩
  | ext {s : St} {v : AVal} {ws : List (Nat × Blk)} (hg : guardOf ops s.tmps o = .run)
      (h : denx C (s.eval C) s.sto id o.op = some (v, ws)) : OpStep C CF own ops id o s ⟨put s.tmps o.dst v, wrs s.sto ws⟩
  | call {s : St} {c : Call} {f : Operand} {g : FuncId} {first caps : List AVal} {r : AVal} {sto' : List Blk} (hg : guardOf ops s.tmps o = .run)
      (ho : o.op = .call c) (hc : c.callee = .value f) (hf : s.eval C f = .func g first caps)
      (h : CallStep CF s.sto g (first ++ c.args.toList.map (s.eval C) ++ caps) r sto') : OpStep C CF own ops id o s ⟨put s.tmps o.dst r, sto'⟩

end Go.Proofs.YtaajfbcopafkaaaGreatDoor.Ai

namespace Go.Proofs.YtaajfbcopafkaaaGreatDoor.Ai
open Go

abbrev CallRel := FuncId → List AVal → List Blk → AVal → List Blk → Prop

mutual
/-- All references lie below a bound. -/
def lowR (L : Nat) : AVal → Bool
  | .func _ first caps => lowRL L first && lowRL L caps
  | .agg cs => lowRL L cs
  | .tup vs => lowRL L vs
  | .iface _ v => lowR L v
  | .ptr b _ => decide (b < L)
  | .eptr b _ _ _ => decide (b < L)
  | .bsl b _ => decide (b < L)
  | .sub b _ _ _ _ => decide (b < L)
  | .csl b _ _ _ _ => decide (b < L)
  | .mapr b => decide (b < L)
  | .yld _ _ _ ts => lowRL L ts
  | _ => true
def lowRL (L : Nat) : List AVal → Bool
  | [] => true
  | x :: xs => lowR L x && lowRL L xs
end

mutual
/-- No yield of a loop over a function. -/
def noY : AVal → Bool
  | .func _ first caps => noYL first && noYL caps
  | .agg cs => noYL cs
  | .tup vs => noYL vs
  | .iface _ v => noY v
  | .yld _ _ _ _ => false
  | _ => true
def noYL : List AVal → Bool
  | [] => true
  | x :: xs => noY x && noYL xs
end
def noYB : Blk → Bool
  | .cells _ cs => noYL cs
  | .arr _ _ rows => rows.all noYL
  | .map es _ => es.all fun p => noY p.1 && noY p.2.1
  | .miter mv _ _ _ => noY mv
  | _ => true
def noYS (sto : List Blk) : Bool := sto.all noYB

/-- A weaker value: less is known of it. -/
inductive WV (L : Nat) : AVal → AVal → Prop
  | dead (x : AVal) : WV L x .dead
  | refl {x : AVal} (h : lowR L x = true) : WV L x x
  | cap {sz : Nat} {rows : List (List AVal)} {c : Option Nat} : WV L (.slc sz rows c) (.slc sz rows none)
  | nil {sz sz' : Nat} {c : Option Nat} : WV L (.slc sz [] c) (.slc sz' [] c)
  | pw {x y : AVal} (hx : noref x = true) (h : PLe x y) : WV L x y

inductive WL (L : Nat) : List AVal → List AVal → Prop
  | nil : WL L [] []
  | cons {x y : AVal} {xs ys : List AVal} (h : WV L x y) (t : WL L xs ys) : WL L (x :: xs) (y :: ys)

inductive WB (L : Nat) : Blk → Blk → Prop
  | gone (B : Blk) : WB L B .gone
  | cells {t : TypeId} {cs ds : List AVal} (h : WL L cs ds) : WB L (.cells t cs) (.cells t ds)
  | buf {t : TypeId} {sz : Nat} {rows : List (List AVal)} {cap : Option Nat} : WB L (.buf t sz rows cap) (.buf t sz rows cap)
  | bufc {t : TypeId} {sz : Nat} {rows : List (List AVal)} {cap : Option Nat} : WB L (.buf t sz rows cap) (.buf t sz rows none)
  | nbuf {t : TypeId} {sz : Nat} : WB L (.nbuf t sz) (.nbuf t sz)
  | iter {s : List UInt8} {pos : Nat} : WB L (.iter s pos) (.iter s pos)
  | arr {t : TypeId} {sz : Nat} {rows : List (List AVal)} (h : ∀ r, r ∈ rows → lowRL L r = true) : WB L (.arr t sz rows) (.arr t sz rows)
  | map {es : List (AVal × AVal × Nat)} {clock : Nat} (h : ∀ p, p ∈ es → lowR L p.1 = true ∧ lowR L p.2.1 = true) : WB L (.map es clock) (.map es clock)
  | miter {mv : AVal} {since : Nat} {seen : List Nat} {last : Nat} (h : lowR L mv = true) : WB L (.miter mv since seen last) (.miter mv since seen last)

/-- The new store is a weaker form of the old one's head. -/
inductive WS (L : Nat) : List Blk → List Blk → Prop
  | nil (rest : List Blk) : WS L rest []
  | cons {A B : Blk} {as bs : List Blk} (h : WB L A B) (t : WS L as bs) : WS L (A :: as) (B :: bs)

/-- A weaker state: what is not needed any more is forgotten. -/
structure Weak (m0 : Nat) (s s1 : St) : Prop where
  low : m0 ≤ s1.sto.length
  tmps : WL s1.sto.length s.tmps s1.tmps
  sto : WS s1.sto.length s.sto s1.sto

/-- A slice that is nil is taken for an empty buffer, so that it may grow. -/
inductive Grow (s : St) : St → Prop
  | tmp {i z t sz : Nat} (h : s.tmps[i]? = some (.slc z [] (some 0))) : Grow s ⟨s.tmps.set i (.bsl s.sto.length 0), s.sto ++ [.nbuf t sz]⟩
  | cell {b i z t sz ct : Nat} {cs : List AVal} (hb : s.sto[b]? = some (.cells ct cs)) (h : cs[i]? = some (.slc z [] (some 0))) :
      Grow s ⟨s.tmps, s.sto.set b (.cells ct (cs.set i (.bsl s.sto.length 0))) ++ [.nbuf t sz]⟩

/-- Operations one behind the other; a block that is made gets the next number. -/
inductive RunU (C : Ctx) (CF : CallRel) (own : Tmp → Bool) (ops : Array Oper) : List Oper → St → St → Prop
  | nil (s : St) : RunU C CF own ops [] s s
  | cons {o : Oper} {rest : List Oper} {s s1 s2 : St} (h : OpStep C CF own ops s.sto.length o s s1) (t : RunU C CF own ops rest s1 s2) : RunU C CF own ops (o :: rest) s s2

/-! Regions whose order is open. -/
def makes : Op → Bool
  | .alloc _ => true
  | .box _ _ => true
  | .range _ _ => true
  | .makeSlice _ _ _ => true
  | .buildSlice _ _ _ => true
  | .makeMap _ _ => true
  | .call c => (match c.callee with | .builtin _ => true | _ => false)
  | _ => false
def rank (l : List Oper) (i : Nat) : Nat := ((l.take i).filter fun o => makes o.op).length

/-- What an operation reads of the store, and what it writes there. -/
structure Lab where
  rd : List Nat
  wr : List Nat
  full : Option Nat
  whole : Bool := false

mutual
/-- References lie among some blocks, or are new. -/
def inR (L : Nat) (rd : List Nat) : AVal → Bool
  | .func _ first caps => inRL L rd first && inRL L rd caps
  | .agg cs => inRL L rd cs
  | .tup vs => inRL L rd vs
  | .iface _ v => inR L rd v
  | .ptr b _ => Nat.ble L b || rd.contains b
  | .eptr b _ _ _ => Nat.ble L b || rd.contains b
  | .bsl b _ => Nat.ble L b || rd.contains b
  | .sub b _ _ _ _ => Nat.ble L b || rd.contains b
  | .csl b _ _ _ _ => Nat.ble L b || rd.contains b
  | .mapr b => Nat.ble L b || rd.contains b
  | .yld _ _ _ ts => inRL L rd ts
  | _ => true
def inRL (L : Nat) (rd : List Nat) : List AVal → Bool
  | [] => true
  | x :: xs => inR L rd x && inRL L rd xs
end
def inB (L : Nat) (rd : List Nat) : Blk → Bool
  | .cells _ cs => inRL L rd cs
  | .arr _ _ rows => rows.all (inRL L rd)
  | .map es _ => es.all fun p => inR L rd p.1 && inR L rd p.2.1
  | .miter mv _ _ _ => inR L rd mv
  | _ => true
def insAll (L : Nat) (rd : List Nat) : Nat → List Blk → Bool
  | _, [] => true
  | k, B :: bs => (!(Nat.ble L k || rd.contains k) || inB L rd B) && insAll L rd (k + 1) bs
/-- The store behind a call that was lent a part of it. -/
def mergeFrom (rd : List Nat) : Nat → List Blk → List Blk → List Blk
  | k, A :: as, B :: bs => (if rd.contains k = true then B else A) :: mergeFrom rd (k + 1) as bs
  | _, [], bs => bs
  | _, as, [] => as
def liveB (sto : List Blk) (b : Nat) : Bool := match sto[b]? with | some .gone => false | some (.nbuf _ _) => false | some _ => true | none => false
def merge (sto : List Blk) (rd : List Nat) (sto1 : List Blk) : List Blk := mergeFrom rd 0 sto sto1

/-- What an operation's operands lead to. -/
def rdLab (ρ : Operand → AVal) (o : Oper) : List Nat := (o.op.operands.toList.map fun x => refsOf [] 3 (ρ x)).flatten

/-- The store with all but some blocks hidden. -/
def maskFrom (rd : List Nat) : Nat → List Blk → List Blk
  | _, [] => []
  | k, B :: bs => (if rd.contains k = true then B else .gone) :: maskFrom rd (k + 1) bs
def mask (sto : List Blk) (rd : List Nat) : List Blk := maskFrom rd 0 sto

def tmpEval (C : Ctx) (tmps : List AVal) (x : Operand) : AVal := (St.mk tmps []).eval C x

/-- What one operation comes to, as a value and writes. -/
inductive OpDo (C : Ctx) (CF : CallRel) (own : Tmp → Bool) (ops : Array Oper) (id : Nat) (o : Oper) (tmps : List AVal) (sto : List Blk) : AVal → List (Nat × Blk) → Prop
  | skip (hg : guardOf ops tmps o = .skip) : OpDo C CF own ops id o tmps sto .undef []
  | den {v : AVal} {ws : List (Nat × Blk)} (hg : guardOf ops tmps o = .run) (h : den C (tmpEval C tmps) sto id (o.dst.elim false own) o.op = some (v, ws)) : OpDo C CF own ops id o tmps sto v ws
  | ext {v : AVal} {ws : List (Nat × Blk)} (hg : guardOf ops tmps o = .run) (h : denx C (tmpEval C tmps) sto id o.op = some (v, ws)) : OpDo C CF own ops id o tmps sto v ws
  | call {c : Call} {f : Operand} {g : FuncId} {first caps : List AVal} {r : AVal} (hg : guardOf ops tmps o = .run)
      (ho : o.op = .call c) (hc : c.callee = .value f) (hf : tmpEval C tmps f = .func g first caps) (xs args' : List AVal)
      (hargs : (first ++ c.args.toList.map (tmpEval C tmps) ++ caps).map (view sto 4) = xs) (hno : norefL xs = true) (hle : PLeL xs args') (h : CF g args' [] r []) (hr : noref r = true) :
      OpDo C CF own ops id o tmps sto r (if memless r = true then [] else ((first ++ c.args.toList.map (tmpEval C tmps) ++ caps).map (refsOf sto 4)).flatten.map fun b => (b, Blk.gone))

def idD (ops : Array Oper) (base : Nat) (i : Nat) (o : Oper) : Nat := if makes o.op = true then base + rank ops.toList i else base + rank ops.toList ops.size

/-- One operation of a region whose order is open, with its label. -/
inductive OpLab (C : Ctx) (CF : CallRel) (own : Tmp → Bool) (ops : Array Oper) (id : Nat) (o : Oper) (l : Lab) (s : St) : St → Prop
  | mk {v : AVal} {ws : List (Nat × Blk)} (h : OpDo C CF own ops id o s.tmps (mask s.sto l.rd) v ws) (hw : ws.map (·.1) = l.wr) (hin : (l.wr.all fun b => decide (b < s.sto.length)) = true) (hf : l.full = none ∧ l.whole = false) :
      OpLab C CF own ops id o l s ⟨put s.tmps o.dst v, wrs s.sto ws⟩
  | fcall {c : Call} {f : Operand} {g : FuncId} {first caps : List AVal} {r : AVal} {sto1 : List Blk} (hg : guardOf ops s.tmps o = .run) (ho : o.op = .call c) (hc : c.callee = .value f) (hf : tmpEval C s.tmps f = .func g first caps)
      (h : CF g (first ++ c.args.toList.map (tmpEval C s.tmps) ++ caps) (mask s.sto l.rd) r sto1) (hl : l.full = some s.sto.length ∧ l.whole = false) (hw : ∀ b, b ∈ l.rd → b ∈ l.wr ∨ sto1[b]? = s.sto[b]?) (hin : (l.rd.all fun b => liveB s.sto b) = true)
      (hle : s.sto.length ≤ sto1.length) (hr : inR s.sto.length l.rd r = true) (hb : insAll s.sto.length l.rd 0 sto1 = true) : OpLab C CF own ops id o l s ⟨put s.tmps o.dst r, merge s.sto l.rd sto1⟩
  | tcall {c : Call} {f : Operand} {g : FuncId} {first caps : List AVal} {r : AVal} {sto1 : List Blk} (hg : guardOf ops s.tmps o = .run) (ho : o.op = .call c) (hc : c.callee = .value f) (hf : tmpEval C s.tmps f = .func g first caps)
      (h : CF g (first ++ c.args.toList.map (tmpEval C s.tmps) ++ caps) s.sto r sto1) (hl : l.whole = true) (hle : s.sto.length ≤ sto1.length) : OpLab C CF own ops id o l s ⟨put s.tmps o.dst r, sto1⟩

inductive RunD (C : Ctx) (CF : CallRel) (own : Tmp → Bool) (ops : Array Oper) (base : Nat) : List (Nat × Lab) → St → St → Prop
  | nil (s : St) : RunD C CF own ops base [] s s
  | cons {i : Nat} {o : Oper} {l : Lab} {rest : List (Nat × Lab)} {s s1 s2 : St} (ho : ops[i]? = some o)
      (h : OpLab C CF own ops (idD ops base i o) o l s s1) (t : RunD C CF own ops base rest s1 s2) : RunD C CF own ops base ((i, l) :: rest) s s2

def disj (a b : List Nat) : Bool := a.all fun x => !b.contains x
def lowOK (a b : Lab) : Bool := match a.full with | none => true | some L => b.full.isNone && (b.rd.all fun k => Nat.blt k L) && (b.wr.all fun k => Nat.blt k L)
def wholeOK (a b : Lab) : Bool := !a.whole || (b.rd.isEmpty && b.wr.isEmpty && b.full.isNone && !b.whole)
def indep (a b : Lab) : Bool := disj a.wr b.rd && disj a.wr b.wr && disj b.wr a.rd && lowOK a b && lowOK b a && (wholeOK a b && wholeOK b a)

def precOK (ops : Array Oper) (pre : List (List Nat)) : Bool :=
  (List.range ops.size).all fun j => match ops[j]? with
    | some o => ((pre.getD j []).all fun i => o.after.any fun e => Region.binds .any e && (e.on == i || (pre.getD e.on []).contains i)) &&
        (o.after.all fun e => !Region.binds .any e || decide (e.on < j)) && (!makes o.op || decide (rank ops.toList j < rank ops.toList ops.size))
    | none => false

def sepOK (ops : Array Oper) (pre : List (List Nat)) (p q : Nat × Lab) : Bool :=
  match ops[p.1]?, ops[q.1]? with
  | some x, some y => ((pre.getD q.1 []).contains p.1 || (x.apart ops y && indep p.2 q.2)) && (!(makes x.op && makes y.op) || rank ops.toList p.1 != rank ops.toList q.1)
  | _, _ => false

def sepAll (ops : Array Oper) (pre : List (List Nat)) : List (Nat × Lab) → Bool
  | [] => true
  | p :: rest => (rest.all fun q => sepOK ops pre p q) && sepAll ops pre rest

/-! The same by numbers whose bits tell what comes ahead. -/
def forceN {α : Type} (n : Nat) (K : Nat → α) : α := match n with | 0 => K 0 | m + 1 => K (m + 1)
def maskOf (f : Nat → Nat) : List Edge → Nat
  | [] => 0
  | e :: es => bif Region.binds .any e then ((1 <<< e.on) ||| f e.on) ||| maskOf f es else maskOf f es
/-- Which operations come ahead of each operation, the last one first. -/
def masksGo {α : Type} : List Nat → Nat → List Oper → (List Nat → α) → α
  | acc, _, [], K => K acc
  | acc, k, o :: rest, K => forceN (maskOf (fun i => acc.getD (k - 1 - i) 0) o.after.toList) fun m => masksGo (m :: acc) (k + 1) rest K
def bitAt (ms : List Nat) (n j i : Nat) : Bool := (ms.getD (n - 1 - j) 0).testBit i
def maskGood (ops : Array Oper) (ms : List Nat) (n : Nat) : Nat → List Oper → Bool
  | _, [] => true
  | j, o :: rest => Nat.beq (ms.getD (n - 1 - j) 0) (maskOf (fun i => ms.getD (n - 1 - i) 0) o.after.toList) &&
      (o.after.toList.all fun e => !Region.binds .any e || Nat.blt e.on j) && (!makes o.op || Nat.blt (rank ops.toList j) (rank ops.toList ops.size)) && maskGood ops ms n (j + 1) rest
def sepM (ops : Array Oper) (ms : List Nat) (n : Nat) (p q : Nat × Lab) : Bool :=
  match ops[p.1]? with
  | some x => (match ops[q.1]? with
    | some y => (bitAt ms n q.1 p.1 || (x.apart ops y && indep p.2 q.2)) && (!(makes x.op && makes y.op) || !Nat.beq (rank ops.toList p.1) (rank ops.toList q.1))
    | none => false)
  | none => false
def sepMs (ops : Array Oper) (ms : List Nat) (n : Nat) : List (Nat × Lab) → Bool
  | [] => true
  | p :: rest => (rest.all fun q => sepM ops ms n p q) && sepMs ops ms n rest

/-- Every two operations whose order is open stand apart. -/
def openOK (ops : Array Oper) (il : List (Nat × Lab)) : Bool :=
  masksGo [] 0 ops.toList fun ms => maskGood ops ms ops.size 0 ops.toList && sepMs ops ms ops.size il

def reserve (ops : Array Oper) (s : St) : St := ⟨s.tmps, s.sto ++ List.replicate (rank ops.toList ops.size) .gone⟩

inductive Out where
  | norm (s : St)
  | exit (id : Nat) (s : St)
  | ret (s : St)

def Out.st : Out → St
  | .norm s => s
  | .exit _ s => s
  | .ret s => s

inductive Exec (C : Ctx) (CF : CallRel) (own : Tmp → Bool) (m0 : Nat) : Code → St → Out → Prop
  | skip (s : St) : Exec C CF own m0 .skip s (.norm s)
  | label (l : Nat) (s : St) : Exec C CF own m0 (.label l) s (.norm s)
  | exit (id : Nat) (s : St) : Exec C CF own m0 (.exit id) s (.exit id s)
  | ret (s : St) : Exec C CF own m0 .ret s (.ret s)
  | region {id : Nat} {ops : Array Oper} {s s1 : St} (h : RunU C CF own ops ops.toList s s1) : Exec C CF own m0 (.region id ops false) s (.norm s1)
  | regionD {id : Nat} {ops : Array Oper} {il : List (Nat × Lab)} {s s1 : St} (h : RunD C CF own ops s.sto.length il (reserve ops s) s1) (hi : il.map (·.1) = List.range ops.size) (hok : openOK ops il = true) :
      Exec C CF own m0 (.region id ops true) s (.norm s1)
  | seqN {a b : Code} {s s1 : St} {o : Out} (h : Exec C CF own m0 a s (.norm s1)) (t : Exec C CF own m0 b s1 o) : Exec C CF own m0 (.seq a b) s o
  | seqX {a b : Code} {s s1 : St} {id : Nat} (h : Exec C CF own m0 a s (.exit id s1)) : Exec C CF own m0 (.seq a b) s (.exit id s1)
  | seqR {a b : Code} {s s1 : St} (h : Exec C CF own m0 a s (.ret s1)) : Exec C CF own m0 (.seq a b) s (.ret s1)
  | cond {c : Operand} {a b : Code} {s : St} {t : Bool} {o : Out} (hc : s.eval C c = .bool t) (h : Exec C CF own m0 (if t = true then a else b) s o) : Exec C CF own m0 (.cond c a b) s o
  | blockN {id : Nat} {b : Code} {s s1 : St} (h : Exec C CF own m0 b s (.norm s1)) : Exec C CF own m0 (.block id b) s (.norm s1)
  | blockX {id : Nat} {b : Code} {s s1 : St} (h : Exec C CF own m0 b s (.exit id s1)) : Exec C CF own m0 (.block id b) s (.norm s1)
  | blockY {id id' : Nat} {b : Code} {s s1 : St} (hne : id' ≠ id) (h : Exec C CF own m0 b s (.exit id' s1)) : Exec C CF own m0 (.block id b) s (.exit id' s1)
  | blockR {id : Nat} {b : Code} {s s1 : St} (h : Exec C CF own m0 b s (.ret s1)) : Exec C CF own m0 (.block id b) s (.ret s1)
  | loopN {b : Code} {s s1 : St} {o : Out} (h : Exec C CF own m0 b s (.norm s1)) (t : Exec C CF own m0 (.loop b) s1 o) : Exec C CF own m0 (.loop b) s o
  | loopX {b : Code} {s s1 : St} {id : Nat} (h : Exec C CF own m0 b s (.exit id s1)) : Exec C CF own m0 (.loop b) s (.exit id s1)
  | loopR {b : Code} {s s1 : St} (h : Exec C CF own m0 b s (.ret s1)) : Exec C CF own m0 (.loop b) s (.ret s1)
  | grow {c : Code} {s s1 : St} {o : Out} (hw : Grow s s1) (h : Exec C CF own m0 c s1 o) : Exec C CF own m0 c s o
  | weak {c : Code} {s s1 : St} {o : Out} (hw : Weak m0 s s1) (h : Exec C CF own m0 c s1 o) : Exec C CF own m0 c s o
  | scope {c : Code} {s : St} {o : Out} (h : Exec C CF own m0 c s o) : Exec C CF own m0 (.scope c) s o
  | giveN {c : Code} {s s1 : St} {i b n : Nat} (h : Exec C CF own m0 c s (.norm s1)) (ht : s1.tmps[i]? = some (.bsl b n)) (hn : noref (view s1.sto 4 (.bsl b n)) = true) :
      Exec C CF own m0 c s (.norm ⟨s1.tmps.set i (view s1.sto 4 (.bsl b n)), s1.sto.set b .gone⟩)
  | weakN {c : Code} {s s1 s2 : St} (h : Exec C CF own m0 c s (.norm s1)) (hw : Weak m0 s1 s2) : Exec C CF own m0 c s (.norm s2)

/-- Operations one behind the other, where a step over a map may bring any entry: whichever it is, what is said holds behind. -/
inductive RunM (C : Ctx) (CF : CallRel) (own : Tmp → Bool) (ops : Array Oper) : List Oper → St → (St → Prop) → Prop
  | nil {s : St} {Q : St → Prop} (h : Q s) : RunM C CF own ops [] s Q
  | cons {o : Oper} {rest : List Oper} {s s1 : St} {Q : St → Prop} (h : OpStep C CF own ops s.sto.length o s s1) (t : RunM C CF own ops rest s1 Q) : RunM C CF own ops (o :: rest) s Q
  | range {o : Oper} {rest : List Oper} {s : St} {Q : St → Prop} {x : Operand} {ty : TypeId} {b : Nat} {es : List (AVal × AVal × Nat)} {clock : Nat} (hg : guardOf ops s.tmps o = .run) (ho : o.op = .range ty x) (hm : (mapT C.P ty).isSome = true)
      (hx : s.eval C x = .mapr b) (hb : s.sto[b]? = some (.map es clock)) (t : RunM C CF own ops rest ⟨put s.tmps o.dst (.ptr s.sto.length 0), s.sto ++ [.miter (.mapr b) clock [] clock]⟩ Q) : RunM C CF own ops (o :: rest) s Q
  | next {o : Oper} {rest : List Oper} {s : St} {Q : St → Prop} {it : Operand} {b m since last : Nat} {seen : List Nat} {es : List (AVal × AVal × Nat)} {clock : Nat} (hg : guardOf ops s.tmps o = .run) (ho : o.op = .next it false)
      (hi : s.eval C it = .ptr b 0) (hb : s.sto[b]? = some (.miter (.mapr m) since seen last)) (hm : s.sto[m]? = some (.map es clock)) (hold : ∀ p, p ∈ es → p.2.2 < since) (hsl : since ≤ last)
      (done : (∀ p, p ∈ es → p.2.2 ∈ seen) → RunM C CF own ops rest ⟨put s.tmps o.dst (.tup [.bool false]), s.sto⟩ Q)
      (more : ∀ p, p ∈ es → p.2.2 ∉ seen → RunM C CF own ops rest ⟨put s.tmps o.dst (.tup [.bool true, p.1, p.2.1]), s.sto.set b (.miter (.mapr m) since (seen ++ [p.2.2]) clock)⟩ Q) : RunM C CF own ops (o :: rest) s Q
  | entry {o : Oper} {rest : List Oper} {s : St} {Q : St → Prop} {it : Operand} {b m since : Nat} {ss : List Nat} {es : List (AVal × AVal × Nat)} {clock : Nat} {p : AVal × AVal × Nat} (hg : guardOf ops s.tmps o = .run) (ho : o.op = .entry it)
      (hi : s.eval C it = .ptr b 0) (hb : s.sto[b]? = some (.miter (.mapr m) since (ss ++ [p.2.2]) clock)) (hm : s.sto[m]? = some (.map es clock)) (hp : p ∈ es) (hn : (es.map (·.2.2)).Nodup)
      (t : RunM C CF own ops rest ⟨put s.tmps o.dst (.tup [p.1, p.2.1]), s.sto⟩ Q) : RunM C CF own ops (o :: rest) s Q
  | yield {o : Oper} {rest : List Oper} {s : St} {Q : St → Prop} {c : Call} {f : Operand} {y r : AVal} {sto' : List Blk} (hg : guardOf ops s.tmps o = .run) (ho : o.op = .call c) (hc : c.callee = .value f) (hf : s.eval C f = y)
      (hy : C.Y y (c.args.toList.map (s.eval C)) s.sto r sto') (t : RunM C CF own ops rest ⟨put s.tmps o.dst r, sto'⟩ Q) : RunM C CF own ops (o :: rest) s Q

def Out.blk (id : Nat) : Out → Out
  | .exit id' s => if id' = id then .norm s else .exit id' s
  | o => o

/-- Code that steps over maps: each way out is as is said. -/
inductive ExecM (C : Ctx) (CF : CallRel) (own : Tmp → Bool) (m0 : Nat) : Code → St → (Out → Prop) → Prop
  | one {c : Code} {s : St} {o : Out} {Q : Out → Prop} (h : Exec C CF own m0 c s o) (hq : Q o) : ExecM C CF own m0 c s Q
  | region {id : Nat} {ops : Array Oper} {s : St} {Q : Out → Prop} (h : RunM C CF own ops ops.toList s (fun s1 => Q (.norm s1))) : ExecM C CF own m0 (.region id ops false) s Q
  | seq {a b : Code} {s : St} {R Q : Out → Prop} (h : ExecM C CF own m0 a s R) (hn : ∀ s1, R (.norm s1) → ExecM C CF own m0 b s1 Q) (hx : ∀ id s1, R (.exit id s1) → Q (.exit id s1)) (hr : ∀ s1, R (.ret s1) → Q (.ret s1)) :
      ExecM C CF own m0 (.seq a b) s Q
  | cond {c : Operand} {a b : Code} {s : St} {t : Bool} {Q : Out → Prop} (hc : s.eval C c = .bool t) (h : ExecM C CF own m0 (if t = true then a else b) s Q) : ExecM C CF own m0 (.cond c a b) s Q
  | block {id : Nat} {b : Code} {s : St} {R Q : Out → Prop} (h : ExecM C CF own m0 b s R) (hq : ∀ o, R o → Q (o.blk id)) : ExecM C CF own m0 (.block id b) s Q
  | loop {b : Code} {s : St} {R Q : Out → Prop} (h : ExecM C CF own m0 b s R) (hn : ∀ s1, R (.norm s1) → ExecM C CF own m0 (.loop b) s1 Q) (hx : ∀ id s1, R (.exit id s1) → Q (.exit id s1)) (hr : ∀ s1, R (.ret s1) → Q (.ret s1)) :
      ExecM C CF own m0 (.loop b) s Q
  | scope {c : Code} {s : St} {Q : Out → Prop} (h : ExecM C CF own m0 c s Q) : ExecM C CF own m0 (.scope c) s Q

/-- What a function hands back. -/
def resV (P : Program) (s : St) : ResultVar → Option AVal
  | .tmp t => some (s.tmps.getD t .dead)
  | .cell a t => (lay P t).bind fun q => (rdCells s.sto (s.tmps.getD a .dead) (if q.1 = true then q.2 else 1)).bind (mkV q.1)
def resL (P : Program) (s : St) : List ResultVar → Option (List AVal)
  | [] => some []
  | r :: rest => (resV P s r).bind fun v => (resL P s rest).map (v :: ·)
def resA (P : Program) (s : St) (rs : List ResultVar) : Option AVal :=
  (resL P s rs).map fun vs => match vs with | [v] => v | vs => .tup vs

def entry (n : Nat) (args : List AVal) (sto : List Blk) : St := ⟨args ++ List.replicate (n - args.length) .undef, sto⟩

/-- How a function's body ends, for what the call hands back. -/
def EndOK (C : Ctx) (fn : Func) (sto : List Blk) (r : AVal) (sto' : List Blk) (o : Out) : Prop :=
  ∃ (s0 s : St) (r0 : AVal), (o = .norm s0 ∨ o = .ret s0) ∧ (s = s0 ∨ Weak sto.length s0 s) ∧ resA C.P s fn.results.toList = some r0 ∧
    ((r = r0 ∧ sto' = s.sto) ∨ (sto = [] ∧ sto' = [] ∧ noref (view s.sto 4 r0) = true ∧ PLe (view s.sto 4 r0) r ∧ noref r = true))
/-- The call of a function that steps over maps: whatever the order, it hands back one result and leaves one store. -/
def CallM (C : Ctx) (CF : CallRel) : CallRel := fun f args sto r sto' =>
  ∃ (fn : Func) (c : Code) (own : Tmp → Bool), C.P.funcs[f]? = some fn ∧ fn.body = some c ∧ fn.name ≠ "runtime.NumGoroutine" ∧
    ExecM C CF own sto.length c (entry fn.ntmps args sto) (EndOK C fn sto r sto')
/-- The same, a part of the store being lent to it. -/
def CallML (C : Ctx) (CF : CallRel) : CallRel := fun f args sto r sto' =>
  ∃ (rd : List Nat) (sto1 : List Blk), CallM C CF f args (mask sto rd) r sto1 ∧ (rd.all fun b => liveB sto b) = true ∧ sto.length ≤ sto1.length ∧ inR sto.length rd r = true ∧ insAll sto.length rd 0 sto1 = true ∧ sto' = merge sto rd sto1

/-- Calls with a bound on how deep they lie in each other. -/
def CallN (C : Ctx) : Nat → CallRel
  | 0 => fun f args sto r sto' => sto = [] ∧ sto' = [] ∧ C.X f args r
  | n + 1 => fun f args sto r sto' =>
    CallN C n f args sto r sto' ∨
    (∃ (fn : Func) (c : Code) (own : Tmp → Bool) (o : Out) (s0 s : St) (r0 : AVal), C.P.funcs[f]? = some fn ∧ fn.body = some c ∧ fn.name ≠ "runtime.NumGoroutine" ∧
      Exec C (CallN C n) own sto.length c (entry fn.ntmps args sto) o ∧ (o = .norm s0 ∨ o = .ret s0) ∧ (s = s0 ∨ Weak sto.length s0 s) ∧ resA C.P s fn.results.toList = some r0 ∧
      ((r = r0 ∧ sto' = s.sto) ∨ (sto = [] ∧ sto' = [] ∧ noref (view s.sto 4 r0) = true ∧ PLe (view s.sto 4 r0) r ∧ noref r = true))) ∨
    CallM C (CallN C n) f args sto r sto' ∨ CallML C (CallN C n) f args sto r sto'

/-- The call of a function: it returns. -/
def CallF (C : Ctx) : CallRel := fun f args sto r sto' => ∃ n, CallN C n f args sto r sto'

end Go.Proofs.YtaajfbcopafkaaaGreatDoor.Ai

namespace Go.Proofs.YtaajfbcopafkaaaGreatDoor.Ai
open Go
set_option linter.unusedVariables false

theorem PV.mono {w w' : World} {ok ok' : Nat → Prop} {x : AVal} {v : Value} (h : PV w ok x v) (hok : ∀ k, ok k → ok' k) (hw : ∀ k, ok k → w'.heap[k]? = w.heap[k]?) : PV w' ok' x v := by
  induction h with
  | int k n => exact .int k n
  | bool b => exact .bool b
  | str s l h => exact .str s l h
  | nilptr => exact .nilptr
  | nilfunc => exact .nilfunc
  | nilif => exact .nilif
  | nilmap => exact .nilmap
  | undef => exact .undef
  | rptr cells a val ha hcell hr hv ih =>
    refine .rptr cells a val (hok _ ha) hcell (fun j x hj => ?_) ih
    rw [World.cell?_of_block (a := a.add j) (w := w)]
    · exact hr j x hj
    · have : (a.add j).block = a.block := by unfold Addr.add; split <;> rfl
      rw [this]; exact hw _ ha
  | slc sz rows cap A c val hsz hcell hc hcap hnil hm hr hv ih =>
    refine .slc sz rows cap A c val hsz hcell hc hcap hnil hm (fun i r j x hi hj => ?_) ih
    obtain ⟨a, hA, ha, hcl⟩ := hr i r j x hi hj
    refine ⟨a, hA, hok _ ha, ?_⟩
    rw [World.cell?_of_block (a := a.add (i * sz + j)) (w := w)]
    · exact hcl
    · have : (a.add (i * sz + j)).block = a.block := by unfold Addr.add; split <;> rfl
      rw [this]; exact hw _ ha
  | func f first caps fs cs h1 h2 h3 h4 ih3 ih4 => exact .func f first caps fs cs h1 h2 ih3 ih4
  | agg xs vs h1 h2 ih => exact .agg xs vs h1 ih
  | tup xs vs h1 h2 ih => exact .tup xs vs h1 ih
  | iface t x v h ih => exact .iface t x v ih

/-- How the store's blocks lie in the world. -/
structure Env where
  ok : Nat → Prop
  al : Nat → Prop
  cur : Nat → Option Nat
  ι : Nat → Nat
  cap : Nat → Nat
  sz : Nat → Nat
  hd : Nat → Option Addr

inductive V (w : World) (E : Env) : AVal → Value → Prop
  | pure {x : AVal} {v : Value} (h : PV w E.ok x v) : V w E x v
  | ptr (b off : Nat) (hb : E.al b) (hc : E.cur b = none) : V w E (.ptr b off) (.pointer (some ⟨E.ι b, off, none⟩))
  | eptr (b n i j : Nat) (v : Value) (hb : E.al b) (hle : ∀ m, E.cur b = some m → n ≤ m)
      (h : E.cur b = some n → v = .pointer (some ⟨E.ι b, i * E.sz b + j, none⟩)) : V w E (.eptr b n i j) v
  | bsl (b n : Nat) (v : Value) (hb : E.al b) (hle : ∀ m, E.cur b = some m → n ≤ m)
      (h : E.cur b = some n → v = .slice (E.hd b) n (E.cap b)) : V w E (.bsl b n) v
  | agg (xs : List AVal) (vs : Array Value) (h1 : vs.size = xs.length) (h2 : ∀ (i : Nat) x v, xs[i]? = some x → vs[i]? = some v → V w E x v) : V w E (.agg xs) (.agg vs)
  | tup (xs : List AVal) (vs : Array Value) (h1 : vs.size = xs.length) (h2 : ∀ (i : Nat) x v, xs[i]? = some x → vs[i]? = some v → V w E x v) : V w E (.tup xs) (.tuple vs)
  | func (f : FuncId) (first caps : List AVal) (fs cs : Array Value) (h1 : fs.size = first.length) (h2 : cs.size = caps.length)
      (h3 : ∀ (i : Nat) x v, first[i]? = some x → fs[i]? = some v → V w E x v) (h4 : ∀ (i : Nat) x v, caps[i]? = some x → cs[i]? = some v → V w E x v) :
      V w E (.func f first caps) (.func (.func f) fs cs)
  | iface (t : TypeId) (x : AVal) (v : Value) (h : V w E x v) : V w E (.iface t x) (.iface t v)
  | dead (v : Value) : V w E .dead v
  | sub (b n lo len : Nat) (cap : Option Nat) (v : Value) (hb : E.al b) (hle : ∀ m, E.cur b = some m → n ≤ m)
      (h : E.cur b = some n → ∃ a c, v = .slice (some a) len c ∧ (0 < c → a = ⟨E.ι b, lo * E.sz b, none⟩) ∧ len ≤ c ∧ lo + len ≤ n ∧ lo + c ≤ E.cap b ∧ (∀ k, cap = some k → c = k)) : V w E (.sub b n lo len cap) v
  | csl (b off sz len cap : Nat) (v : Value) (hb : E.al b) (hc : E.cur b = none) (h : v = .slice (some ⟨E.ι b, off, none⟩) len cap) (hl : len ≤ cap) : V w E (.csl b off sz len cap) v
  | mapr (b : Nat) (hb : E.al b) (hc : E.cur b = none) : V w E (.mapr b) (.map (some (E.ι b)))
  | yld (ps : List Nat) (assign body : Code) (tmps : List AVal) (l D : Nat) (fn : FuncId) (tv : Array Value) (hg : w.heap[l]? = some (.loop ⟨.ready, none, fn, tv, ps.toArray, assign, body, D⟩)) (hd : w.heap[D]? = some (.deferred (some [])))
      (h1 : tv.size = tmps.length) (h2 : ∀ (i : Nat) x v, tmps[i]? = some x → tv[i]? = some v → V w E x v) : V w E (.yld ps assign body tmps) (.func (.yield l) #[] #[])

/-- Values side by side. -/
def VL (w : World) (E : Env) (xs : List AVal) (vs : Array Value) : Prop := vs.size = xs.length ∧ ∀ (i : Nat) x v, xs[i]? = some x → vs[i]? = some v → V w E x v

def live (sto : List Blk) (b : Nat) : Prop :=
  match sto[b]? with
  | some .gone => False
  | some (.nbuf _ _) => False
  | some _ => True
  | none => False

/-- What a block of the store says of the world. -/
inductive BlkRel (w : World) (E : Env) (b : Nat) : Blk → Prop
  | cells (t : TypeId) (cs : List AVal) (vals : Array Value) (hg : w.heap[E.ι b]? = some (.cells vals t (0, 0))) (hn : ¬ E.ok (E.ι b)) (hs : vals.size = cs.length)
      (hv : ∀ (i : Nat) x v, cs[i]? = some x → vals[i]? = some v → V w E x v) : BlkRel w E b (.cells t cs)
  | buf (t : TypeId) (sz : Nat) (rows : List (List AVal)) (cap : Option Nat) (vals : Array Value) (hg : w.heap[E.ι b]? = some (.cells vals t (0, 0))) (hn : ¬ E.ok (E.ι b))
      (hE : E.sz b = sz) (hh : E.hd b = some ⟨E.ι b, 0, none⟩) (hs : vals.size = E.cap b * sz) (hl : rows.length ≤ E.cap b) (hm : E.cap b ≤ maxLen) (hcap : ∀ k, cap = some k → E.cap b = k) (h0 : 0 < sz)
      (hsz : ∀ r, r ∈ rows → r.length = sz) (hcell : ∀ r, r ∈ rows → ∀ x, x ∈ r → cellish x = true)
      (hv : ∀ (i : Nat) r (j : Nat) x, rows[i]? = some r → r[j]? = some x → ∃ v, vals[i * sz + j]? = some v ∧ PV w E.ok x v) : BlkRel w E b (.buf t sz rows cap)
  | iter (s : List UInt8) (pos : Nat) (sb : ByteArray) (hsb : sb.data.toList = s) (hg : w.heap[E.ι b]? = some (.stringIter sb pos)) (hn : ¬ E.ok (E.ι b)) : BlkRel w E b (.iter s pos)
  | nbuf (t : TypeId) (sz : Nat) (hc : E.cap b = 0) (hs : E.sz b = sz) : BlkRel w E b (.nbuf t sz)
  | arr (t : TypeId) (sz : Nat) (rows : List (List AVal)) (vals : Array Value) (hg : w.heap[E.ι b]? = some (.cells vals t (0, 0))) (hn : ¬ E.ok (E.ι b))
      (hE : E.sz b = sz) (hs : vals.size = E.cap b * sz) (hl : rows.length ≤ E.cap b) (hm : E.cap b ≤ maxLen) (h0 : 0 < sz)
      (hsz : ∀ r, r ∈ rows → r.length = sz)
      (hv : ∀ (i : Nat) r (j : Nat) x, rows[i]? = some r → r[j]? = some x → ∃ v, vals[i * sz + j]? = some v ∧ v.oneCell' = true ∧ V w E x v) : BlkRel w E b (.arr t sz rows)
  | map (es : List (AVal × AVal × Nat)) (ents : Array MapEntry) (clock : Nat) (hg : w.heap[E.ι b]? = some (.map ents clock)) (hn : ¬ E.ok (E.ι b)) (hs : ents.size = es.length)
      (hv : ∀ (i : Nat) p ent, es[i]? = some p → ents[i]? = some ent → V w E p.1 ent.key ∧ V w E p.2.1 ent.val ∧ ent.born = p.2.2) : BlkRel w E b (.map es clock)
  | miter (mv : AVal) (mr : Option Nat) (since : Nat) (seen : List Nat) (last : Nat) (hv : V w E mv (.map mr)) (hg : w.heap[E.ι b]? = some (.mapIter mr since seen.toArray last)) (hn : ¬ E.ok (E.ι b)) : BlkRel w E b (.miter mv since seen last)
  | gone : BlkRel w E b .gone

/-- What is known of a package variable. -/
def GlobOK (C : Ctx) (w : World) (ok : Nat → Prop) (g : Nat) : Prop :=
  (C.glob g = .dead ∨ PV w ok (C.glob g) (.pointer (some ⟨g, 0, none⟩))) ∧ ∀ cs, C.tabs g = some cs → ok g ∧ ∃ t fr, w.heap[g]? = some (.cells cs t fr)
structure Rel (C : Ctx) (E : Env) (sto : List Blk) (w : World) : Prop where
  n : ∀ b, E.al b → b < sto.length
  al : ∀ b, live sto b → E.al b
  cur : ∀ b, E.cur b = curOf sto b
  okb : ∀ k, E.ok k → k < w.heap.size
  inj : ∀ b b', live sto b → live sto b' → E.ι b = E.ι b' → b = b'
  blk : ∀ (b : Nat) B, sto[b]? = some B → BlkRel w E b B
  glob : ∀ g, GlobOK C w E.ok g

/-- From one state to a later one. -/
structure Step (E : Env) (sto : List Blk) (w : World) (E' : Env) (sto' : List Blk) (w' : World) : Prop where
  os : w'.os = w.os
  tape : w'.tape = w.tape
  output : w'.output = w.output
  size : w.heap.size ≤ w'.heap.size
  ok : ∀ k, E.ok k → E'.ok k
  okNew : ∀ k, E'.ok k → E.ok k ∨ w.heap.size ≤ k ∨ ∃ b, live sto b ∧ E.ι b = k
  heap : ∀ k, k < w.heap.size → (∀ b, live sto b → E.ι b ≠ k) → w'.heap[k]? = w.heap[k]?
  al : ∀ b, E.al b → E'.al b
  own : ∀ b, live sto' b → (live sto b ∧ E'.ι b = E.ι b) ∨ w.heap.size ≤ E'.ι b
  keep : ∀ b, E.al b → E.cur b = none → E'.cur b = none ∧ E'.ι b = E.ι b
  kbuf : ∀ b m, E.al b → E.cur b = some m → E'.cur b = none ∨ ∃ m', E'.cur b = some m' ∧ m ≤ m' ∧ E'.sz b = E.sz b ∧ (m' = m → E'.ι b = E.ι b ∧ E'.cap b = E.cap b ∧ E'.hd b = E.hd b)

def dull : Blk → Bool
  | .gone => true
  | .nbuf _ _ => true
  | _ => false

theorem live_iff {sto : List Blk} {b : Nat} : live sto b ↔ ∃ B, sto[b]? = some B ∧ dull B = false := by
  unfold live
  cases h : sto[b]? with
  | none => simp
  | some B => cases B <;> simp [dull]

theorem live_lt {sto : List Blk} {b : Nat} (h : live sto b) : b < sto.length := by
  obtain ⟨B, hB, _⟩ := live_iff.1 h
  exact (List.getElem?_eq_some_iff.1 hB).1

/-- A live block lies in the world, and is not among those that are only read. -/
theorem Rel.liveBlk {C : Ctx} {E : Env} {sto : List Blk} {w : World} (h : Rel C E sto w) {b : Nat} (hb : live sto b) : ¬ E.ok (E.ι b) ∧ E.ι b < w.heap.size := by
  obtain ⟨B, hB, hne⟩ := live_iff.1 hb
  have hr := h.blk b B hB
  cases hr with
  | cells t cs vals hg hn hs hv => exact ⟨hn, (Array.getElem?_eq_some_iff.1 hg).1⟩
  | buf t sz rows cap vals hg hn => exact ⟨hn, (Array.getElem?_eq_some_iff.1 hg).1⟩
  | iter s pos sb hsb hg hn => exact ⟨hn, (Array.getElem?_eq_some_iff.1 hg).1⟩
  | arr t sz rows vals hg hn => exact ⟨hn, (Array.getElem?_eq_some_iff.1 hg).1⟩
  | map es ents clock hg hn => exact ⟨hn, (Array.getElem?_eq_some_iff.1 hg).1⟩
  | miter mv mr s se l hv hg hn => exact ⟨hn, (Array.getElem?_eq_some_iff.1 hg).1⟩
  | nbuf => cases hne
  | gone => cases hne

theorem Step.okHeap {C : Ctx} {E E' : Env} {sto sto' : List Blk} {w w' : World} (hr : Rel C E sto w) (h : Step E sto w E' sto' w') : ∀ k, E.ok k → w'.heap[k]? = w.heap[k]? := by
  intro k hk
  refine h.heap k (hr.okb k hk) (fun b hb e => ?_)
  exact (hr.liveBlk hb).1 (e ▸ hk)

/-- No block of the store is a loop's record, or a block for deferred calls. -/
theorem Rel.apart {C : Ctx} {E : Env} {sto : List Blk} {w : World} (hr : Rel C E sto w) {k : Nat} {o : Obj} (hk : w.heap[k]? = some o) (ho : (match o with | .loop _ => true | .deferred _ => true | _ => false) = true) : ∀ b, live sto b → E.ι b ≠ k := by
  intro b hb e
  obtain ⟨B, hB, hne⟩ := live_iff.1 hb
  subst e
  cases hr.blk b B hB with
  | cells t cs vals hg hn hs hv => rw [hk] at hg; cases hg; cases ho
  | buf t sz rows cap vals hg hn => rw [hk] at hg; cases hg; cases ho
  | iter s pos sb hsb hg hn => rw [hk] at hg; cases hg; cases ho
  | arr t sz rows vals hg hn => rw [hk] at hg; cases hg; cases ho
  | map es ents clock hg hn => rw [hk] at hg; cases hg; cases ho
  | miter mv mr s se l hv hg hn => rw [hk] at hg; cases hg; cases ho
  | nbuf => cases hne
  | gone => cases hne
theorem Step.apart {C : Ctx} {E E' : Env} {sto sto' : List Blk} {w w' : World} (hr : Rel C E sto w) (h : Step E sto w E' sto' w') {k : Nat} {o : Obj} (hk : w.heap[k]? = some o) (ho : (match o with | .loop _ => true | .deferred _ => true | _ => false) = true) : w'.heap[k]? = some o :=
  (h.heap k (Array.getElem?_eq_some_iff.1 hk).1 (hr.apart hk ho)).trans hk
theorem V.step {C : Ctx} {E E' : Env} {sto sto' : List Blk} {w w' : World} {x : AVal} {v : Value} (hr : Rel C E sto w) (h : Step E sto w E' sto' w') (hv : V w E x v) : V w' E' x v := by
  induction hv with
  | pure hp => exact .pure (hp.mono h.ok (Step.okHeap hr h))
  | ptr b off hb hc =>
    obtain ⟨h1, h2⟩ := h.keep b hb hc
    rw [← h2]
    exact .ptr b off (h.al b hb) h1
  | eptr b n i j v hb hle hv =>
    refine .eptr b n i j v (h.al b hb) ?_ ?_
    · intro m hm
      cases hc : E.cur b with
      | none => rw [(h.keep b hb hc).1] at hm; cases hm
      | some m0 =>
        rcases h.kbuf b m0 hb hc with hn | ⟨m', hm', hlt, _⟩
        · rw [hn] at hm; cases hm
        · rw [hm'] at hm; cases hm; exact Nat.le_trans (hle _ hc) hlt
    · intro hcur
      cases hc : E.cur b with
      | none => rw [(h.keep b hb hc).1] at hcur; cases hcur
      | some m0 =>
        rcases h.kbuf b m0 hb hc with hn | ⟨m', hm', hlt, hsz, heq⟩
        · rw [hn] at hcur; cases hcur
        · rw [hm'] at hcur; cases hcur
          have : n = m0 := Nat.le_antisymm (hle _ hc) hlt
          subst this
          rw [(heq rfl).1, hsz]
          exact hv hc
  | bsl b n v hb hle hv =>
    refine .bsl b n v (h.al b hb) ?_ ?_
    · intro m hm
      cases hc : E.cur b with
      | none => rw [(h.keep b hb hc).1] at hm; cases hm
      | some m0 =>
        rcases h.kbuf b m0 hb hc with hn | ⟨m', hm', hlt, _⟩
        · rw [hn] at hm; cases hm
        · rw [hm'] at hm; cases hm; exact Nat.le_trans (hle _ hc) hlt
    · intro hcur
      cases hc : E.cur b with
      | none => rw [(h.keep b hb hc).1] at hcur; cases hcur
      | some m0 =>
        rcases h.kbuf b m0 hb hc with hn | ⟨m', hm', hlt, hsz, heq⟩
        · rw [hn] at hcur; cases hcur
        · rw [hm'] at hcur; cases hcur
          have : n = m0 := Nat.le_antisymm (hle _ hc) hlt
          subst this
          rw [(heq rfl).2.1, (heq rfl).2.2]
          exact hv hc
  | sub b n lo len cp v hb hle hv =>
    refine .sub b n lo len cp v (h.al b hb) ?_ ?_
    · intro m hm
      cases hc : E.cur b with
      | none => rw [(h.keep b hb hc).1] at hm; cases hm
      | some m0 =>
        rcases h.kbuf b m0 hb hc with hn | ⟨m', hm', hlt, _⟩
        · rw [hn] at hm; cases hm
        · rw [hm'] at hm; cases hm; exact Nat.le_trans (hle _ hc) hlt
    · intro hcur
      cases hc : E.cur b with
      | none => rw [(h.keep b hb hc).1] at hcur; cases hcur
      | some m0 =>
        rcases h.kbuf b m0 hb hc with hn | ⟨m', hm', hlt, hsz, heq⟩
        · rw [hn] at hcur; cases hcur
        · rw [hm'] at hcur; cases hcur
          have : n = m0 := Nat.le_antisymm (hle _ hc) hlt
          subst this
          rw [(heq rfl).1, (heq rfl).2.1, hsz]
          exact hv hc
  | csl b off sz len cp v hb hc hv hl =>
    obtain ⟨h1, h2⟩ := h.keep b hb hc
    exact .csl b off sz len cp v (h.al b hb) h1 (by rw [h2]; exact hv) hl
  | mapr b hb hc =>
    obtain ⟨h1, h2⟩ := h.keep b hb hc
    rw [← h2]
    exact .mapr b (h.al b hb) h1
  | yld ps assign body tmps l D fn tv hg hd h1 h2 ih => exact .yld ps assign body tmps l D fn tv (h.apart hr hg rfl) (h.apart hr hd rfl) h1 ih
  | agg xs vs h1 h2 ih => exact .agg xs vs h1 ih
  | tup xs vs h1 h2 ih => exact .tup xs vs h1 ih
  | func f first caps fs cs h1 h2 h3 h4 ih3 ih4 => exact .func f first caps fs cs h1 h2 ih3 ih4
  | iface t x v h ih => exact .iface t x v ih
  | dead v => exact .dead v

theorem GlobOK.mono {C : Ctx} {w w' : World} {ok ok' : Nat → Prop} {g : Nat} (h : GlobOK C w ok g) (hok : ∀ k, ok k → ok' k) (hw : ∀ k, ok k → w'.heap[k]? = w.heap[k]?) : GlobOK C w' ok' g :=
  ⟨h.1.imp id fun h' => h'.mono hok hw, fun cs hc => let ⟨h1, t, fr, h2⟩ := h.2 cs hc; ⟨hok _ h1, t, fr, (hw _ h1).trans h2⟩⟩
theorem glob_step {C : Ctx} {E E' : Env} {sto sto' : List Blk} {w w' : World} (hr : Rel C E sto w) (h : Step E sto w E' sto' w') (g : Nat) : GlobOK C w' E'.ok g :=
  (hr.glob g).mono h.ok (Step.okHeap hr h)

theorem VL.step {C : Ctx} {E E' : Env} {sto sto' : List Blk} {w w' : World} {xs : List AVal} {vs : Array Value} (hr : Rel C E sto w) (h : Step E sto w E' sto' w') (hv : VL w E xs vs) : VL w' E' xs vs :=
  ⟨hv.1, fun i x v hx hv' => (hv.2 i x v hx hv').step hr h⟩

theorem Step.refl (E : Env) (sto : List Blk) (w : World) : Step E sto w E sto w :=
  ⟨rfl, rfl, rfl, Nat.le_refl _, fun _ h => h, fun _ h => .inl h, fun _ _ _ => rfl, fun _ h => h, fun _ h => .inl ⟨h, rfl⟩, fun _ _ h => ⟨h, rfl⟩, fun _ m _ h => .inr ⟨m, h, Nat.le_refl _, rfl, fun _ => ⟨rfl, rfl, rfl⟩⟩⟩

theorem Step.trans {E E1 E2 : Env} {sto sto1 sto2 : List Blk} {w w1 w2 : World} (h : Step E sto w E1 sto1 w1) (k : Step E1 sto1 w1 E2 sto2 w2) : Step E sto w E2 sto2 w2 where
  os := k.os.trans h.os
  tape := k.tape.trans h.tape
  output := k.output.trans h.output
  size := Nat.le_trans h.size k.size
  ok := fun x hx => k.ok x (h.ok x hx)
  okNew := fun x hx => by
    rcases k.okNew x hx with h1 | h1 | ⟨b, hb, rfl⟩
    · exact h.okNew x h1
    · exact .inr (.inl (Nat.le_trans h.size h1))
    · rcases h.own b hb with ⟨h2, h3⟩ | h2
      · exact .inr (.inr ⟨b, h2, h3.symm⟩)
      · exact .inr (.inl h2)
  heap := fun x hx hne => by
    rw [k.heap x (Nat.lt_of_lt_of_le hx h.size) (fun b hb e => ?_), h.heap x hx hne]
    rcases h.own b hb with ⟨h2, h3⟩ | h2
    · exact hne b h2 (h3 ▸ e)
    · omega
  al := fun b hb => k.al b (h.al b hb)
  own := fun b hb => by
    rcases k.own b hb with ⟨h1, h2⟩ | h1
    · rcases h.own b h1 with ⟨h3, h4⟩ | h3
      · exact .inl ⟨h3, h2.trans h4⟩
      · exact .inr (h2 ▸ h3)
    · exact .inr (Nat.le_trans h.size h1)
  keep := fun b hb hc => by
    obtain ⟨h1, h2⟩ := h.keep b hb hc
    obtain ⟨h3, h4⟩ := k.keep b (h.al b hb) h1
    exact ⟨h3, h4.trans h2⟩
  kbuf := fun b m hb hc => by
    rcases h.kbuf b m hb hc with h1 | ⟨m1, h1, h2, h3, h4⟩
    · exact .inl (k.keep b (h.al b hb) h1).1
    · rcases k.kbuf b m1 (h.al b hb) h1 with h5 | ⟨m2, h5, h6, h7, h8⟩
      · exact .inl h5
      · refine .inr ⟨m2, h5, Nat.le_trans h2 h6, h7.trans h3, fun e => ?_⟩
        have e1 : m1 = m := by omega
        have e2 : m2 = m1 := by omega
        exact ⟨(h8 e2).1.trans (h4 e1).1, (h8 e2).2.1.trans (h4 e1).2.1, (h8 e2).2.2.trans (h4 e1).2.2⟩

/-- The deferred calls of a frame: the marks of the loops over functions that it has gone through; no round has deferred a call. -/
structure Z where
  n : Nat
  ds : List Deferred
def Marks (z0 : Z) (w : World) (ds : List Deferred) : Prop :=
  ∃ Ds : List Nat, ds = Ds.map (fun D => { target := .collected D, args := #[] }) ++ z0.ds ∧ Ds.Nodup ∧ ∀ D, D ∈ Ds → z0.n ≤ D ∧ w.heap[D]? = some (.deferred (some []))
theorem Marks.all {n : Nat} {ds : List Deferred} {w : World} : Marks ⟨n, ds⟩ w ds := ⟨[], rfl, .nil, fun D h => by cases h⟩
theorem Marks.nil {n : Nat} {w : World} : Marks ⟨n, []⟩ w [] := .all
theorem Marks.step {z0 : Z} {C : Ctx} {E E' : Env} {sto sto' : List Blk} {w w' : World} {ds : List Deferred} (h : Marks z0 w ds) (hr : Rel C E sto w) (hst : Step E sto w E' sto' w') : Marks z0 w' ds := by
  obtain ⟨Ds, h1, h2, h3⟩ := h
  exact ⟨Ds, h1, h2, fun D hD => ⟨(h3 D hD).1, hst.apart hr (h3 D hD).2 rfl⟩⟩
theorem Marks.step' {z0 : Z} {C : Ctx} {E E' : Env} {sto sto' : List Blk} {w w' : World} {a : Act} {dz : List Deferred} (h : a.defers = dz ∧ Marks z0 w dz) (hr : Rel C E sto w) (hst : Step E sto w E' sto' w') : a.defers = dz ∧ Marks z0 w' dz := ⟨h.1, h.2.step hr hst⟩

structure RelSt (z0 : Z) (dz : List Deferred) (C : Ctx) (E : Env) (s : St) (a : Act) (w : World) : Prop where
  rel : Rel C E s.sto w
  size : a.tmps.size = s.tmps.length
  tmps : ∀ (i : Nat) x v, s.tmps[i]? = some x → a.tmps[i]? = some v → V w E x v
  defers : a.defers = dz ∧ Marks z0 w dz

def curB : Blk → Option Nat
  | .buf _ _ rows _ => some rows.length
  | .nbuf _ _ => some 0
  | .arr _ _ rows => some rows.length
  | _ => none

theorem curOf_curB {sto : List Blk} {b : Nat} {B : Blk} (h : sto[b]? = some B) : curOf sto b = curB B := by
  unfold curOf; simp only [h]; cases B <;> rfl

theorem wr1_get {sto : List Blk} {b : Nat} {B : Blk} (hb : b ≤ sto.length) (x : Nat) : (wr1 sto b B)[x]? = if x = b then some B else sto[x]? := by
  unfold wr1
  by_cases h : b < sto.length
  · rw [if_pos h, List.getElem?_set]
    by_cases e : b = x
    · subst e; rw [if_pos rfl, if_pos rfl, if_pos h]
    · rw [if_neg e, if_neg (fun h => e h.symm)]
  · rw [if_neg h, List.getElem?_append]
    have e : b = sto.length := by omega
    subst e
    by_cases h1 : x < sto.length
    · rw [if_pos h1, if_neg (by omega)]
    · rw [if_neg h1]
      by_cases h2 : x = sto.length
      · subst h2; simp
      · rw [if_neg h2, List.getElem?_eq_none (by simp; omega), List.getElem?_eq_none (by omega)]

theorem wr1_length {sto : List Blk} {b : Nat} {B : Blk} (hb : b ≤ sto.length) : (wr1 sto b B).length = max sto.length (b + 1) := by
  unfold wr1
  by_cases h : b < sto.length
  · rw [if_pos h]; simp; omega
  · rw [if_neg h]; simp; omega

theorem live_wr1 {sto : List Blk} {b : Nat} {B : Blk} (hb : b ≤ sto.length) {x : Nat} : live (wr1 sto b B) x ↔ (x = b ∧ dull B = false) ∨ (x ≠ b ∧ live sto x) := by
  rw [live_iff, live_iff, wr1_get hb]
  by_cases e : x = b
  · rw [if_pos e]
    constructor
    · rintro ⟨B', h, hne⟩; cases h; exact .inl ⟨e, hne⟩
    · rintro (⟨_, hne⟩ | ⟨h, _⟩)
      · exact ⟨B, rfl, hne⟩
      · exact (h e).elim
  · rw [if_neg e]
    constructor
    · intro h; exact .inr ⟨e, h⟩
    · rintro (⟨h, _⟩ | ⟨_, h⟩)
      · exact (e h).elim
      · exact h

def Env.set (E : Env) (b : Nat) (c : Option Nat) (i cp s : Nat) (d : Option Addr) : Env :=
  { E with al := fun x => x = b ∨ E.al x, cur := fun x => if x = b then c else E.cur x, ι := fun x => if x = b then i else E.ι x, cap := fun x => if x = b then cp else E.cap x, sz := fun x => if x = b then s else E.sz x, hd := fun x => if x = b then d else E.hd x }

/-- A block of the other ones is as it was. -/
theorem BlkRel.other {C : Ctx} {E E' : Env} {sto sto' : List Blk} {w w' : World} (hr : Rel C E sto w) (hs : Step E sto w E' sto' w') (hok : E'.ok = E.ok) {b : Nat} {B : Blk}
    (hι : E'.ι b = E.ι b) (hcap : E'.cap b = E.cap b) (hsz : E'.sz b = E.sz b) (hhd : E'.hd b = E.hd b) (hg : w'.heap[E.ι b]? = w.heap[E.ι b]?) (h : BlkRel w E b B) : BlkRel w' E' b B := by
  cases h with
  | cells t cs vals h1 h2 h3 h4 =>
    exact .cells t cs vals (by rw [hι, hg]; exact h1) (by rw [hι, hok]; exact h2) h3 (fun i x v hx hv => (h4 i x v hx hv).step hr hs)
  | buf t sz rows cap vals h1 h2 h3 hh h4 h5 h6 h7 h8 h9 h10 h11 =>
    refine .buf t sz rows cap vals (by rw [hι, hg]; exact h1) (by rw [hι, hok]; exact h2) (by rw [hsz]; exact h3) (by rw [hhd, hι]; exact hh) (by rw [hcap]; exact h4) (by rw [hcap]; exact h5) (by rw [hcap]; exact h6) (by rw [hcap]; exact h7) h8 h9 h10 (fun i r j x hi hj => ?_)
    obtain ⟨v, hv1, hv2⟩ := h11 i r j x hi hj
    exact ⟨v, hv1, hv2.mono (fun k hk => hs.ok k hk) (Step.okHeap hr hs)⟩
  | iter s pos sb hsb h1 h2 => exact .iter s pos sb hsb (by rw [hι, hg]; exact h1) (by rw [hι, hok]; exact h2)
  | nbuf t sz h1 h2 => exact .nbuf t sz (by rw [hcap]; exact h1) (by rw [hsz]; exact h2)
  | arr t sz rows vals h1 h2 h3 h4 h5 h6 h8 h9 h11 =>
    refine .arr t sz rows vals (by rw [hι, hg]; exact h1) (by rw [hι, hok]; exact h2) (by rw [hsz]; exact h3) (by rw [hcap]; exact h4) (by rw [hcap]; exact h5) (by rw [hcap]; exact h6) h8 h9 (fun i r j x hi hj => ?_)
    obtain ⟨v, hv1, hv2, hv3⟩ := h11 i r j x hi hj
    exact ⟨v, hv1, hv2, hv3.step hr hs⟩
  | map es ents clock h1 h2 h3 h4 =>
    exact .map es ents clock (by rw [hι, hg]; exact h1) (by rw [hι, hok]; exact h2) h3 (fun i p ent hx hv => ⟨(h4 i p ent hx hv).1.step hr hs, (h4 i p ent hx hv).2.1.step hr hs, (h4 i p ent hx hv).2.2⟩)
  | miter mv mr s se l h0 h1 h2 => exact .miter mv mr s se l (h0.step hr hs) (by rw [hι, hg]; exact h1) (by rw [hι, hok]; exact h2)
  | gone => exact .gone

/-- A block is written anew, or made. -/
theorem step_upd {C : Ctx} {E : Env} {sto : List Blk} {w w' : World} (hr : Rel C E sto w) (b : Nat) (B : Blk) (i cp s : Nat) (d : Option Addr) (hb : b ≤ sto.length)
    (hos : w'.os = w.os) (htape : w'.tape = w.tape) (hout : w'.output = w.output) (hsize : w.heap.size ≤ w'.heap.size)
    (hheap : ∀ k, k < w.heap.size → (live sto b → E.ι b ≠ k) → w'.heap[k]? = w.heap[k]?)
    (hι : dull B = false → (live sto b ∧ i = E.ι b) ∨ w.heap.size ≤ i)
    (hal : (E.al b ∧ (E.cur b = none → curB B = none ∧ i = E.ι b) ∧ (∀ m, E.cur b = some m → ∃ m', curB B = some m' ∧ m ≤ m' ∧ s = E.sz b ∧ (m' = m → i = E.ι b ∧ cp = E.cap b ∧ d = E.hd b))) ∨ (¬ E.al b ∧ b ≤ sto.length)) :
    Step E sto w (E.set b (curB B) i cp s d) (wr1 sto b B) w' := by
  refine ⟨hos, htape, hout, hsize, fun _ h => h, fun _ h => .inl h, fun k hk hn => hheap k hk (fun hl => hn b hl), fun _ h => .inr h, fun x hx => ?_, fun x hx hc => ?_, fun x m hx hc => ?_⟩
  · rcases (live_wr1 hb).1 hx with ⟨rfl, hdl⟩ | ⟨hne', hl⟩
    · rcases hι hdl with ⟨h1, h2⟩ | h1
      · exact .inl ⟨h1, by simp [Env.set, h2]⟩
      · exact .inr (by simpa [Env.set] using h1)
    · exact .inl ⟨hl, by simp [Env.set, hne']⟩
  · by_cases e : x = b
    · subst e
      rcases hal with ⟨_, h1, _⟩ | ⟨h1, _⟩
      · obtain ⟨h2, h3⟩ := h1 hc
        exact ⟨by simpa [Env.set] using h2, by simpa [Env.set] using h3⟩
      · exact (h1 hx).elim
    · exact ⟨by simpa [Env.set, e] using hc, by simp [Env.set, e]⟩
  · by_cases e : x = b
    · subst e
      rcases hal with ⟨_, _, h1⟩ | ⟨h1, _⟩
      · obtain ⟨m', h2, h3, h4, h5⟩ := h1 m hc
        exact .inr ⟨m', by simpa [Env.set] using h2, h3, by simpa [Env.set] using h4, fun e => by simpa [Env.set] using h5 e⟩
      · exact (h1 hx).elim
    · exact .inr ⟨m, by simpa [Env.set, e] using hc, Nat.le_refl _, by simp [Env.set, e], fun _ => by simp [Env.set, e]⟩

theorem rel_upd {C : Ctx} {E : Env} {sto : List Blk} {w w' : World} (hr : Rel C E sto w) (b : Nat) (B : Blk) (i cp s : Nat) (d : Option Addr) (hb : b ≤ sto.length)
    (hos : w'.os = w.os) (htape : w'.tape = w.tape) (hout : w'.output = w.output) (hsize : w.heap.size ≤ w'.heap.size)
    (hheap : ∀ k, k < w.heap.size → (live sto b → E.ι b ≠ k) → w'.heap[k]? = w.heap[k]?)
    (hι : dull B = false → (live sto b ∧ i = E.ι b) ∨ w.heap.size ≤ i)
    (hal : (E.al b ∧ (E.cur b = none → curB B = none ∧ i = E.ι b) ∧ (∀ m, E.cur b = some m → ∃ m', curB B = some m' ∧ m ≤ m' ∧ s = E.sz b ∧ (m' = m → i = E.ι b ∧ cp = E.cap b ∧ d = E.hd b))) ∨ (¬ E.al b ∧ b ≤ sto.length))
    (hB : BlkRel w' (E.set b (curB B) i cp s d) b B) :
    Rel C (E.set b (curB B) i cp s d) (wr1 sto b B) w' ∧ Step E sto w (E.set b (curB B) i cp s d) (wr1 sto b B) w' := by
  have hst := step_upd hr b B i cp s d hb hos htape hout hsize hheap hι hal
  refine ⟨⟨fun x hx => ?_, fun x hx => ?_, fun x => ?_, fun k hk => ?_, fun x y hx hy he => ?_, fun x B' hx => ?_, fun g => glob_step hr hst g⟩, hst⟩
  · rw [wr1_length hb]
    rcases hx with rfl | hx
    · omega
    · have := hr.n x hx; omega
  · rcases (live_wr1 hb).1 hx with ⟨rfl, _⟩ | ⟨_, hl⟩
    · exact .inl rfl
    · exact .inr (hr.al x hl)
  · by_cases e : x = b
    · subst e
      have := wr1_get (B := B) hb x
      rw [if_pos rfl] at this
      rw [curOf_curB this]; simp [Env.set]
    · have := wr1_get (B := B) hb x
      rw [if_neg e] at this
      simp only [Env.set, e, if_false, hr.cur x, curOf, this]
  · exact Nat.lt_of_lt_of_le (hr.okb k hk) hsize
  · have key : dull B = false → ∀ y, y ≠ b → live sto y → i ≠ E.ι y := by
      intro hdl y hy hly e
      rcases hι hdl with ⟨h1, h2⟩ | h1
      · exact hy (hr.inj _ _ hly h1 (by rw [← e, h2]))
      · have := (hr.liveBlk hly).2; omega
    rcases (live_wr1 hb).1 hx with ⟨rfl, hdl⟩ | ⟨hx1, hx2⟩ <;> rcases (live_wr1 hb).1 hy with ⟨rfl, hdl2⟩ | ⟨hy1, hy2⟩
    · rfl
    · simp only [Env.set, if_true, hy1, if_false] at he
      exact (key hdl y hy1 hy2 he).elim
    · simp only [Env.set, if_true, hx1, if_false] at he
      exact (key hdl2 x hx1 hx2 he.symm).elim
    · simp only [Env.set, hx1, hy1, if_false] at he
      exact hr.inj x y hx2 hy2 he
  · rw [wr1_get hb] at hx
    by_cases e : x = b
    · subst e
      rw [if_pos rfl] at hx; cases hx
      exact hB
    · rw [if_neg e] at hx
      by_cases hg : dull B' = true
      · have hbl := hr.blk x B' hx
        cases hbl with
        | nbuf t sz h1 h2 => exact .nbuf t sz (by simpa [Env.set, e] using h1) (by simpa [Env.set, e] using h2)
        | gone => exact .gone
        | _ => cases hg
      · have hl : live sto x := live_iff.2 ⟨B', hx, by simpa using hg⟩
        refine BlkRel.other hr hst rfl (by simp [Env.set, e]) (by simp [Env.set, e]) (by simp [Env.set, e]) (by simp [Env.set, e]) (hheap _ (hr.liveBlk hl).2 (fun hlb he => e (hr.inj _ _ hl hlb he.symm))) (hr.blk x B' hx)

/-- Blocks are given up: from now on they are only read. -/
def Env.give (E : Env) (sto : List Blk) (bs : List Nat) : Env :=
  { E with ok := fun k => E.ok k ∨ ∃ b, b ∈ bs ∧ live sto b ∧ E.ι b = k, cur := fun b => if b ∈ bs then none else E.cur b }

theorem gones_get (bs : List Nat) : ∀ (sto : List Blk) (x : Nat), (gones sto bs)[x]? = if x ∈ bs ∧ x < sto.length then some .gone else sto[x]? := by
  induction bs with
  | nil => intro sto x; simp [gones]
  | cons b rest ih =>
    intro sto x
    simp only [gones, ih, List.length_set, List.mem_cons, List.getElem?_set]
    by_cases h1 : x ∈ rest ∧ x < sto.length
    · rw [if_pos h1, if_pos ⟨.inr h1.1, h1.2⟩]
    · rw [if_neg h1]
      by_cases h2 : b = x
      · subst h2
        by_cases h3 : b < sto.length
        · rw [if_pos rfl, if_pos h3, if_pos ⟨.inl rfl, h3⟩]
        · rw [if_pos rfl, if_neg h3, if_neg (fun h => h3 h.2), List.getElem?_eq_none (by omega)]
      · rw [if_neg h2, if_neg]
        rintro ⟨h3 | h3, h4⟩
        · exact h2 h3.symm
        · exact h1 ⟨h3, h4⟩

theorem gones_length (bs : List Nat) : ∀ (sto : List Blk), (gones sto bs).length = sto.length := by
  induction bs with
  | nil => intro sto; rfl
  | cons b rest ih => intro sto; simp [gones, ih]

theorem live_gones {bs : List Nat} {sto : List Blk} {x : Nat} : live (gones sto bs) x ↔ live sto x ∧ x ∉ bs := by
  rw [live_iff, live_iff, gones_get]
  constructor
  · rintro ⟨B, h, hne⟩
    by_cases h1 : x ∈ bs ∧ x < sto.length
    · rw [if_pos h1] at h; cases h; cases hne
    · rw [if_neg h1] at h
      exact ⟨⟨B, h, hne⟩, fun hm => h1 ⟨hm, (List.getElem?_eq_some_iff.1 h).1⟩⟩
  · rintro ⟨⟨B, h, hne⟩, hn⟩
    exact ⟨B, by rw [if_neg (fun h => hn h.1)]; exact h, hne⟩

theorem rel_give {C : Ctx} {E : Env} {sto : List Blk} {w : World} (hr : Rel C E sto w) (bs : List Nat) :
    Rel C (E.give sto bs) (gones sto bs) w ∧ Step E sto w (E.give sto bs) (gones sto bs) w := by
  have hst : Step E sto w (E.give sto bs) (gones sto bs) w := by
    refine ⟨rfl, rfl, rfl, Nat.le_refl _, fun _ h => .inl h, fun k hk => ?_, fun _ _ _ => rfl, fun _ h => h, fun b hb => .inl ⟨(live_gones.1 hb).1, rfl⟩, fun b hb hc => ⟨?_, rfl⟩, fun b m hb hc => ?_⟩
    · rcases hk with h | ⟨b, _, h1, h2⟩
      · exact .inl h
      · exact .inr (.inr ⟨b, h1, h2⟩)
    · simp only [Env.give]; split
      · rfl
      · exact hc
    · by_cases h : b ∈ bs
      · exact .inl (by simp [Env.give, h])
      · exact .inr ⟨m, by simp [Env.give, h, hc], Nat.le_refl _, rfl, fun _ => ⟨rfl, rfl, rfl⟩⟩
  refine ⟨⟨fun b hb => ?_, fun b hb => hr.al b (live_gones.1 hb).1, fun b => ?_, fun k hk => ?_, fun b b' hb hb' he => hr.inj b b' (live_gones.1 hb).1 (live_gones.1 hb').1 he, fun b B hB => ?_, fun g => glob_step hr hst g⟩, hst⟩
  · rw [gones_length]; exact hr.n b hb
  · simp only [Env.give, hr.cur b, curOf, gones_get]
    by_cases h : b ∈ bs
    · by_cases h2 : b < sto.length
      · rw [if_pos h, if_pos ⟨h, h2⟩]
      · rw [if_pos h, if_neg (fun h => h2 h.2), List.getElem?_eq_none (by omega)]
    · rw [if_neg h, if_neg (fun h' => h h'.1)]
  · rcases hk with h | ⟨b, _, h1, rfl⟩
    · exact hr.okb k h
    · exact (hr.liveBlk h1).2
  · rw [gones_get] at hB
    by_cases h1 : b ∈ bs ∧ b < sto.length
    · rw [if_pos h1] at hB; cases hB; exact .gone
    · rw [if_neg h1] at hB
      by_cases hg : dull B = true
      · cases hr.blk b B hB with
        | nbuf t sz h1 h2 => exact .nbuf t sz h1 h2
        | gone => exact .gone
        | _ => cases hg
      · have hl : live sto b := live_iff.2 ⟨B, hB, by simpa using hg⟩
        have hbn : b ∉ bs := fun hm => h1 ⟨hm, live_lt hl⟩
        have hn : ¬ (E.give sto bs).ok (E.ι b) := by
          rintro (h | ⟨b', hm, hl', he⟩)
          · exact (hr.liveBlk hl).1 h
          · exact hbn (hr.inj b' b hl' hl he ▸ hm)
        have hv : ∀ {x : AVal} {v : Value}, V w E x v → V w (E.give sto bs) x v := fun h => h.step hr hst
        have hp : ∀ {x : AVal} {v : Value}, PV w E.ok x v → PV w (E.give sto bs).ok x v := fun h => h.mono (fun _ h => .inl h) (fun _ _ => rfl)
        cases hr.blk b B hB with
        | cells t cs vals h1 h2 h3 h4 => exact .cells t cs vals h1 hn h3 (fun i x v hx hv' => hv (h4 i x v hx hv'))
        | buf t sz rows cap vals h1 h2 h3 hh h4 h5 h6 h7 h8 h9 h10 h11 =>
          exact .buf t sz rows cap vals h1 hn h3 hh h4 h5 h6 h7 h8 h9 h10 (fun i r j x hi hj => let ⟨v, hv1, hv2⟩ := h11 i r j x hi hj; ⟨v, hv1, hp hv2⟩)
        | iter s pos sb hsb h1 h2 => exact .iter s pos sb hsb h1 hn
        | arr t sz rows vals h1 h2 h3 h4 h5 h6 h8 h9 h11 =>
          exact .arr t sz rows vals h1 hn h3 h4 h5 h6 h8 h9 (fun i r j x hi hj => let ⟨v, hv1, hv2, hv3⟩ := h11 i r j x hi hj; ⟨v, hv1, hv2, hv hv3⟩)
        | map es ents clock h1 h2 h3 h4 => exact .map es ents clock h1 hn h3 (fun i p ent hx hv' => ⟨hv (h4 i p ent hx hv').1, hv (h4 i p ent hx hv').2.1, (h4 i p ent hx hv').2.2⟩)
        | miter mv mr s se l h0 h1 h2 => exact .miter mv mr s se l (hv h0) h1 hn
        | nbuf t sz h1 h2 => exact .nbuf t sz h1 h2
        | gone => exact .gone

end Go.Proofs.YtaajfbcopafkaaaGreatDoor.Ai

namespace Go.Proofs.YtaajfbcopafkaaaGreatDoor.Ai
open Go
set_option linter.unusedVariables false
set_option linter.unusedSimpArgs false

section
variable {w : World} {E : Env} {v : Value}

theorem V.int_inv {k : IntKind} {n : Int} (h : V w E (.int k n) v) : v = .int k n := by
  cases h with | pure h => cases h with | int => rfl
theorem V.bool_inv {b : Bool} (h : V w E (.bool b) v) : v = .bool b := by
  cases h with | pure h => cases h with | bool => rfl
theorem V.str_inv {l : List UInt8} (h : V w E (.str l) v) : ∃ s : ByteArray, v = .string s ∧ s.data.toList = l := by
  cases h with | pure h => cases h with | str s l h => exact ⟨s, rfl, h⟩
theorem V.nilptr_inv (h : V w E .nilptr v) : v = .pointer none := by
  cases h with | pure h => cases h with | nilptr => rfl
theorem V.nilfunc_inv (h : V w E .nilfunc v) : v = .nilFunc := by
  cases h with | pure h => cases h with | nilfunc => rfl
theorem V.nilif_inv (h : V w E .nilif v) : v = .nilIface := by
  cases h with | pure h => cases h with | nilif => rfl
theorem V.iface_val {t : TypeId} {x : AVal} (h : V w E (.iface t x) v) : ∃ y, v = .iface t y := by
  cases h with
  | pure h => cases h with | iface _ _ y => exact ⟨y, rfl⟩
  | iface _ _ y => exact ⟨y, rfl⟩
theorem V.undef_inv (h : V w E .undef v) : v = undef := by
  cases h with | pure h => cases h with | undef => rfl
theorem V.ptr_inv {b o : Nat} (h : V w E (.ptr b o) v) : v = .pointer (some ⟨E.ι b, o, none⟩) ∧ E.al b ∧ E.cur b = none := by
  cases h with
  | pure h => cases h
  | ptr _ _ hb hc => exact ⟨rfl, hb, hc⟩
theorem V.eptr_inv {b n i j : Nat} (h : V w E (.eptr b n i j) v) : E.al b ∧ (∀ m, E.cur b = some m → n ≤ m) ∧ (E.cur b = some n → v = .pointer (some ⟨E.ι b, i * E.sz b + j, none⟩)) := by
  cases h with
  | pure h => cases h
  | eptr _ _ _ _ _ hb hle h => exact ⟨hb, hle, h⟩
theorem V.bsl_inv {b n : Nat} (h : V w E (.bsl b n) v) : E.al b ∧ (∀ m, E.cur b = some m → n ≤ m) ∧ (E.cur b = some n → v = .slice (E.hd b) n (E.cap b)) := by
  cases h with
  | pure h => cases h
  | bsl _ _ _ hb hle h => exact ⟨hb, hle, h⟩
theorem V.sub_inv {b n lo len : Nat} {cap : Option Nat} (h : V w E (.sub b n lo len cap) v) : E.al b ∧ (∀ m, E.cur b = some m → n ≤ m) ∧
    (E.cur b = some n → ∃ a c, v = .slice (some a) len c ∧ (0 < c → a = ⟨E.ι b, lo * E.sz b, none⟩) ∧ len ≤ c ∧ lo + len ≤ n ∧ lo + c ≤ E.cap b ∧ (∀ k, cap = some k → c = k)) := by
  cases h with
  | pure h => cases h
  | sub _ _ _ _ _ _ hb hle h => exact ⟨hb, hle, h⟩
theorem V.csl_inv {b off sz len cap : Nat} (h : V w E (.csl b off sz len cap) v) : E.al b ∧ E.cur b = none ∧ v = .slice (some ⟨E.ι b, off, none⟩) len cap ∧ len ≤ cap := by
  cases h with
  | pure h => cases h
  | csl _ _ _ _ _ _ hb hc h hl => exact ⟨hb, hc, h, hl⟩
theorem V.mapr_inv {b : Nat} (h : V w E (.mapr b) v) : v = .map (some (E.ι b)) ∧ E.al b ∧ E.cur b = none := by
  cases h with
  | pure h => cases h
  | mapr _ hb hc => exact ⟨rfl, hb, hc⟩
theorem V.nilmap_inv (h : V w E .nilmap v) : v = .map none := by
  cases h with | pure h => cases h with | nilmap => rfl
theorem V.rptr_inv {cs : List AVal} (h : V w E (.rptr cs) v) : PV w E.ok (.rptr cs) v := by
  cases h with | pure h => exact h
theorem V.slc_inv {sz : Nat} {rows : List (List AVal)} {cap : Option Nat} (h : V w E (.slc sz rows cap) v) : PV w E.ok (.slc sz rows cap) v := by
  cases h with | pure h => exact h
theorem V.agg_inv {xs : List AVal} (h : V w E (.agg xs) v) : ∃ vs, v = .agg vs ∧ VL w E xs vs := by
  cases h with
  | pure h => cases h with | agg _ vs h1 h2 => exact ⟨vs, rfl, h1, fun i x v hx hv => .pure (h2 i x v hx hv)⟩
  | agg _ vs h1 h2 => exact ⟨vs, rfl, h1, h2⟩
theorem V.tup_inv {xs : List AVal} (h : V w E (.tup xs) v) : ∃ vs, v = .tuple vs ∧ VL w E xs vs := by
  cases h with
  | pure h => cases h with | tup _ vs h1 h2 => exact ⟨vs, rfl, h1, fun i x v hx hv => .pure (h2 i x v hx hv)⟩
  | tup _ vs h1 h2 => exact ⟨vs, rfl, h1, h2⟩
theorem V.func_inv {f : FuncId} {a b : List AVal} (h : V w E (.func f a b) v) : ∃ fs cs, v = .func (.func f) fs cs ∧ VL w E a fs ∧ VL w E b cs := by
  cases h with
  | pure h => cases h with | func _ _ _ fs cs h1 h2 h3 h4 => exact ⟨fs, cs, rfl, ⟨h1, fun i x v hx hv => .pure (h3 i x v hx hv)⟩, ⟨h2, fun i x v hx hv => .pure (h4 i x v hx hv)⟩⟩
  | func _ _ _ fs cs h1 h2 h3 h4 => exact ⟨fs, cs, rfl, ⟨h1, h3⟩, ⟨h2, h4⟩⟩

theorem V.int {k : IntKind} {n : Int} : V w E (.int k n) (.int k n) := .pure (.int k n)
theorem V.bool {b : Bool} : V w E (.bool b) (.bool b) := .pure (.bool b)
theorem V.str {s : ByteArray} {l : List UInt8} (h : s.data.toList = l) : V w E (.str l) (.string s) := .pure (.str s l h)

/-- The abstract value of a constant. -/
theorem V.of_val0 (v : Value) : V w E (ofVal0 v) v := by
  unfold ofVal0
  split
  · exact .pure (.int _ _)
  · exact .pure (.bool _)
  · exact .pure (.str _ _ rfl)
  · exact .pure .nilptr
  · exact .pure (.slc 0 [] (some 0) none 0 (fun _ _ => undef) (by simp) (by simp) (by simp) (by simp) (fun _ => rfl) (by simp) (by simp) (by simp))
  · exact .pure .nilfunc
  · exact .pure .nilif
  · exact .pure .nilmap
  · rename_i f first caps
    split
    · rename_i h
      have h1 : first = #[] := Array.eq_empty_of_size_eq_zero h.1
      have h2 : caps = #[] := Array.eq_empty_of_size_eq_zero h.2
      subst h1; subst h2
      exact .pure (.func f [] [] #[] #[] rfl rfl (by simp) (by simp))
    · exact .dead _
  · exact .dead _

theorem V.of_val (v : Value) : V w E (ofVal v) v := by
  unfold ofVal
  split
  · rename_i cs
    refine .agg _ cs (by simp) (fun i x v hx hv => ?_)
    rw [List.getElem?_map, Array.getElem?_toList, hv] at hx
    cases hx
    exact V.of_val0 v
  · exact V.of_val0 v

/-- The cells of a value. -/
theorem V.cells_agg {xs : List AVal} (h : V w E (.agg xs) v) : VL w E (AVal.agg xs).cells v.cells := by
  obtain ⟨vs, rfl, h'⟩ := h.agg_inv
  exact h'

theorem solid_one {C : Ctx} {sto : List Blk} {x : AVal} (hr : Rel C E sto w) (hs : solid sto x = true) (h : V w E x v) : v.oneCell' = true := by
  cases h with
  | pure h => cases h <;> first | rfl | (simp [solid] at hs; done)
  | ptr => rfl
  | yld => simp [solid] at hs
  | eptr b n i j v hb hle h =>
    simp only [solid, beq_iff_eq] at hs
    rw [h (by rw [hr.cur]; exact hs)]; rfl
  | bsl b n v hb hle h =>
    simp only [solid, beq_iff_eq] at hs
    rw [h (by rw [hr.cur]; exact hs)]; rfl
  | sub b n lo len cp v hb hle h =>
    simp only [solid, beq_iff_eq] at hs
    obtain ⟨a, c, h1, _⟩ := h (by rw [hr.cur]; exact hs)
    rw [h1]; rfl
  | csl b off sz len cp v hb hc h hl => rw [h]; rfl
  | mapr => rfl
  | agg => simp [solid] at hs
  | tup => simp [solid] at hs
  | func => rfl
  | iface => rfl
  | dead => simp [solid] at hs

theorem cellish_one {ok : Nat → Prop} {x : AVal} (hs : cellish x = true) (h : PV w ok x v) : v.oneCell' = true := by
  cases h <;> first | rfl | (simp [cellish] at hs; done)

theorem Value.cells_one (h : v.oneCell' = true) : v.cells = #[v] := by
  cases v <;> first | rfl | (simp [Value.oneCell'] at h)

/-- A value that is stored: its cells, each of which can be stored. -/
theorem V.cells {C : Ctx} {sto : List Blk} {x : AVal} (hr : Rel C E sto w) (hs : x.cells.all (solid sto) = true) (h : V w E x v) :
    VL w E x.cells v.cells ∧ ∀ u ∈ v.cells.toList, u.oneCell' = true := by
  by_cases hx : ∃ xs, x = .agg xs
  · obtain ⟨xs, rfl⟩ := hx
    have hc := h.cells_agg
    refine ⟨hc, fun u hu => ?_⟩
    obtain ⟨i, hi⟩ := List.mem_iff_getElem?.1 hu
    rw [Array.getElem?_toList] at hi
    have hlt : i < xs.length := by
      have := (Array.getElem?_eq_some_iff.1 hi).1
      have h2 := hc.1
      simp only [AVal.cells] at h2; omega
    have hx : xs[i]? = some xs[i] := List.getElem?_eq_getElem hlt
    refine solid_one hr ?_ (hc.2 i xs[i] u hx hi)
    simp only [AVal.cells, List.all_eq_true] at hs
    exact hs _ (List.getElem_mem hlt)
  · have hxc : x.cells = [x] := by
      cases x <;> first | rfl | exact (hx ⟨_, rfl⟩).elim
    rw [hxc] at hs ⊢
    simp only [List.all_cons, List.all_nil, Bool.and_true] at hs
    have h1 := solid_one hr hs h
    rw [Value.cells_one h1]
    refine ⟨⟨rfl, fun i y u hy hu => ?_⟩, fun u hu => by simp at hu; rw [hu]; exact h1⟩
    cases i with
    | zero => simp at hy hu; rw [← hy, ← hu]; exact h
    | succ i => simp at hy
end

theorem norefL_mem {xs : List AVal} (h : norefL xs = true) : ∀ x, x ∈ xs → noref x = true := by
  induction xs with
  | nil => intro x hx; cases hx
  | cons y ys ih =>
    simp only [norefL, Bool.and_eq_true] at h
    intro x hx
    rcases List.mem_cons.1 hx with rfl | hx
    · exact h.1
    · exact ih h.2 x hx

/-- What holds no reference is told by memory that is only read. -/
theorem V.pv {w : World} {E : Env} {v : Value} {x : AVal} (hn : noref x = true) (h : V w E x v) : PV w E.ok x v := by
  induction h with
  | pure h => exact h
  | ptr => simp [noref] at hn
  | yld => simp [noref] at hn
  | eptr => simp [noref] at hn
  | bsl => simp [noref] at hn
  | sub => simp [noref] at hn
  | csl => simp [noref] at hn
  | mapr => simp [noref] at hn
  | agg xs vs h1 h2 ih => exact .agg xs vs h1 (fun i x v hx hv => ih i x v hx hv (norefL_mem (by simpa [noref] using hn) x (List.mem_of_getElem? hx)))
  | tup xs vs h1 h2 ih => exact .tup xs vs h1 (fun i x v hx hv => ih i x v hx hv (norefL_mem (by simpa [noref] using hn) x (List.mem_of_getElem? hx)))
  | func f first caps fs cs h1 h2 h3 h4 ih3 ih4 =>
    simp only [noref, Bool.and_eq_true] at hn
    exact .func f first caps fs cs h1 h2 (fun i x v hx hv => ih3 i x v hx hv (norefL_mem hn.1 x (List.mem_of_getElem? hx))) (fun i x v hx hv => ih4 i x v hx hv (norefL_mem hn.2 x (List.mem_of_getElem? hx)))
  | iface t x v h ih => exact .iface t x v (ih (by simpa [noref] using hn))
  | dead => simp [noref] at hn

theorem takeN_some {n : Nat} {l r : List AVal} (h : takeN n l = some r) : n ≤ l.length ∧ r = l.take n := by
  unfold takeN at h
  split at h
  · rename_i hle; exact ⟨hle, (Option.some.inj h).symm⟩
  · cases h

theorem addr_add_block (a : Addr) (n : Nat) : (a.add n).block = a.block := by unfold Addr.add; split <;> rfl
theorem addr_add_add (a : Addr) (m n : Nat) : (a.add m).add n = a.add (m + n) := by
  unfold Addr.add
  by_cases hm : m = 0
  · subst hm; simp
  · by_cases hn : n = 0
    · subst hn; simp [hm]
    · rw [if_neg hm, if_neg hn, if_neg (by omega)]; simp [Nat.add_assoc]
theorem addr_plain (g o n : Nat) : (⟨g, o, none⟩ : Addr).add n = ⟨g, o + n, none⟩ := by
  unfold Addr.add; split
  · rename_i h; subst h; rfl
  · rfl

/-- Reading through a pointer: the address, and what stands there. -/
theorem rdCells_sound {C : Ctx} {E : Env} {sto : List Blk} {w : World} {p : AVal} {pv : Value} {n : Nat} {cs : List AVal} (hr : Rel C E sto w) (hp : V w E p pv) (h : rdCells sto p n = some cs) :
    cs.length = n ∧ ∃ (a : Addr), pv = .pointer (some a) ∧ ∃ vals : List Value, vals.length = n ∧ (∀ (j : Nat) u, vals[j]? = some u → w.cell? (a.add j) = some u) ∧
      ∀ (j : Nat) x u, cs[j]? = some x → vals[j]? = some u → V w E x u := by
  unfold rdCells at h
  split at h
  · rename_i b off
    split at h
    · rename_i t ds hb
      obtain ⟨h1, rfl⟩ := takeN_some h
      obtain ⟨rfl, hal, hcur⟩ := hp.ptr_inv
      cases hr.blk b _ hb with
      | cells _ _ vals hg hn hs hv =>
        refine ⟨by simp at h1 ⊢; omega, _, rfl, (vals.toList.drop off).take n, by simp at h1 ⊢; omega, fun j u hj => ?_, fun j x u hx hu => ?_⟩
        · rw [List.getElem?_take] at hj
          split at hj
          · rw [List.getElem?_drop, Array.getElem?_toList] at hj
            rw [addr_plain]
            simp only [World.cell?, hg, Option.isSome_none, Bool.false_eq_true, if_false]
            exact hj
          · cases hj
        · rw [List.getElem?_take] at hx hu
          split at hx
          · rename_i hlt
            rw [if_pos hlt] at hu
            rw [List.getElem?_drop] at hx
            rw [List.getElem?_drop, Array.getElem?_toList] at hu
            exact hv _ x u hx hu
          · cases hx
    · cases h
  · rename_i b m i j0
    split at h
    · rename_i t sz rows cap hb
      split at h
      · rename_i hm
        split at h
        · rename_i r hri
          obtain ⟨h1, rfl⟩ := takeN_some h
          obtain ⟨hal, hle, hpv⟩ := hp.eptr_inv
          have hpv := hpv (by rw [hr.cur, curOf_curB hb]; simp [curB, hm])
          subst hpv
          cases hr.blk b _ hb with
          | buf _ _ _ _ vals hg hn hE hh hs hl hmx hcap h0 hsz hcell hv =>
            have hrl : r.length = sz := hsz r (List.mem_of_getElem? hri)
            have hsome : ∀ k, k < n → ∃ u, vals[i * sz + (j0 + k)]? = some u ∧ ∃ x, r[j0 + k]? = some x ∧ PV w E.ok x u := by
              intro k hk
              have hlt : j0 + k < r.length := by simp at h1; omega
              obtain ⟨u, hu1, hu2⟩ := hv i r (j0 + k) _ hri (List.getElem?_eq_getElem hlt)
              exact ⟨u, hu1, _, List.getElem?_eq_getElem hlt, hu2⟩
            refine ⟨by simp at h1 ⊢; omega, _, rfl, (vals.toList.drop (i * sz + j0)).take n, ?_, fun j u hj => ?_, fun j x u hx hu => ?_⟩
            · rw [List.length_take, List.length_drop, Array.length_toList]
              cases n with
              | zero => simp
              | succ n =>
                obtain ⟨u, hu1, _⟩ := hsome n (by omega)
                have := (Array.getElem?_eq_some_iff.1 hu1).1
                omega
            · rw [List.getElem?_take] at hj
              split at hj
              · rw [List.getElem?_drop, Array.getElem?_toList] at hj
                rw [addr_plain, hE]
                simp only [World.cell?, hg, Option.isSome_none, Bool.false_eq_true, if_false]
                exact hj
              · cases hj
            · rw [List.getElem?_take] at hx hu
              split at hx
              · rename_i hlt
                rw [if_pos hlt] at hu
                rw [List.getElem?_drop] at hx
                rw [List.getElem?_drop, Array.getElem?_toList] at hu
                obtain ⟨u', hu1, x', hx1, hu2⟩ := hsome j hlt
                rw [hx1] at hx
                rw [show i * sz + (j0 + j) = i * sz + j0 + j by omega] at hu1
                rw [hu1] at hu
                cases hx; cases hu
                exact .pure hu2
              · cases hx
        · cases h
      · cases h
    · rename_i t sz rows hb
      split at h
      · rename_i hm
        split at h
        · rename_i r hri
          obtain ⟨h1, rfl⟩ := takeN_some h
          obtain ⟨hal, hle, hpv⟩ := hp.eptr_inv
          have hpv := hpv (by rw [hr.cur, curOf_curB hb]; simp [curB, hm])
          subst hpv
          cases hr.blk b _ hb with
          | arr _ _ _ vals hg hn hE hs hl hmx h0 hsz hv =>
            have hrl : r.length = sz := hsz r (List.mem_of_getElem? hri)
            have hsome : ∀ k, k < n → ∃ u, vals[i * sz + (j0 + k)]? = some u ∧ ∃ x, r[j0 + k]? = some x ∧ V w E x u := by
              intro k hk
              have hlt : j0 + k < r.length := by simp at h1; omega
              obtain ⟨u, hu1, _, hu2⟩ := hv i r (j0 + k) _ hri (List.getElem?_eq_getElem hlt)
              exact ⟨u, hu1, _, List.getElem?_eq_getElem hlt, hu2⟩
            refine ⟨by simp at h1 ⊢; omega, _, rfl, (vals.toList.drop (i * sz + j0)).take n, ?_, fun j u hj => ?_, fun j x u hx hu => ?_⟩
            · rw [List.length_take, List.length_drop, Array.length_toList]
              cases n with
              | zero => simp
              | succ n =>
                obtain ⟨u, hu1, _⟩ := hsome n (by omega)
                have := (Array.getElem?_eq_some_iff.1 hu1).1
                omega
            · rw [List.getElem?_take] at hj
              split at hj
              · rw [List.getElem?_drop, Array.getElem?_toList] at hj
                rw [addr_plain, hE]
                simp only [World.cell?, hg, Option.isSome_none, Bool.false_eq_true, if_false]
                exact hj
              · cases hj
            · rw [List.getElem?_take] at hx hu
              split at hx
              · rename_i hlt
                rw [if_pos hlt] at hu
                rw [List.getElem?_drop] at hx
                rw [List.getElem?_drop, Array.getElem?_toList] at hu
                obtain ⟨u', hu1, x', hx1, hu2⟩ := hsome j hlt
                rw [hx1] at hx
                rw [show i * sz + (j0 + j) = i * sz + j0 + j by omega] at hu1
                rw [hu1] at hu
                cases hx; cases hu
                exact hu2
              · cases hx
        · cases h
      · cases h
    · cases h
  · rename_i ds
    obtain ⟨h1, rfl⟩ := takeN_some h
    have hp' := hp.rptr_inv
    cases hp' with
    | rptr _ a val hok hcell hrr hv =>
      refine ⟨by simp; omega, a, rfl, (List.range n).map val, by simp, fun j u hj => ?_, fun j x u hx hu => ?_⟩
      · rw [List.getElem?_map] at hj
        by_cases hlt : j < n
        · rw [List.getElem?_range hlt] at hj
          simp only [Option.map_some, Option.some.injEq] at hj
          rw [← hj]
          exact hrr j _ (List.getElem?_eq_getElem (show j < ds.length by omega))
        · rw [List.getElem?_eq_none (by simp; omega)] at hj; cases hj
      · rw [List.getElem?_take] at hx
        split at hx
        · rename_i hlt
          rw [List.getElem?_map, List.getElem?_range hlt] at hu
          simp only [Option.map_some, Option.some.injEq] at hu
          rw [← hu]
          exact .pure (hv j x hx)
        · cases hx
  · cases h

end Go.Proofs.YtaajfbcopafkaaaGreatDoor.Ai

namespace Go.Proofs.YtaajfbcopafkaaaGreatDoor.Ai
open Go
set_option linter.unusedVariables false
set_option linter.unusedSimpArgs false

def opRes : Next → Option Value
  | .value v => some v
  | .skip => some undef
  | _ => none

/-- An operation's run gives what it is told to give. -/
def OpGood (C : Ctx) (E : Env) (sto : List Blk) (w : World) (id : Nat) (r : Result Next) (v : AVal) (ws : List (Nat × Blk)) : Prop :=
  ∃ nx u w' E', r = .ok nx w' ∧ opRes nx = some u ∧ Rel C E' (wrs sto ws) w' ∧ Step E sto w E' (wrs sto ws) w' ∧ V w' E' v u ∧ (∀ b, E'.al b → E.al b ∨ b = id)

section
variable {C : Ctx} {E : Env} {sto : List Blk} {w : World} {id : Nat}

theorem good_pure (hr : Rel C E sto w) {r : Result Next} {v : AVal} {u : Value} (h : r = .ok (.value u) w) (hv : V w E v u) : OpGood C E sto w id r v [] :=
  ⟨_, u, w, E, h, rfl, hr, Step.refl E sto w, hv, fun _ h => .inl h⟩

theorem run_v {s : Sem Value} {P : Program} {u : Value} {w w' : World} (h : s.run P w = .ok u w') : (do pure (Next.value (← s)) : Sem Next).run P w = .ok (.value u) w' := by
  simp [h]

theorem good_draw (hr : Rel C E sto w) {r : Result Next} {v : AVal} {u : Value} (n : Nat) (h : r = .ok (.value u) { w with drawn := n }) (hv : V w E v u) : OpGood C E sto w id r v [] := by
  have hst : Step E sto w E sto { w with drawn := n } := by
    have := Step.refl E sto w
    exact ⟨rfl, rfl, rfl, Nat.le_refl _, this.ok, this.okNew, fun _ _ _ => rfl, this.al, this.own, this.keep, this.kbuf⟩
  have hv' : ∀ {x : AVal} {v : Value}, V w E x v → V { w with drawn := n } E x v := fun h => h.step hr hst
  refine ⟨_, u, { w with drawn := n }, E, h, rfl, ⟨hr.n, hr.al, hr.cur, hr.okb, hr.inj, fun b B hB => ?_, fun g => glob_step hr hst g⟩, hst, hv' hv, fun _ h => .inl h⟩
  exact BlkRel.other hr hst rfl rfl rfl rfl rfl rfl (hr.blk b B hB)

theorem lay_some {P : Program} {t : TypeId} {q : Bool × Nat} (h : lay P t = some q) : ∃ i d, P.info? t = some i ∧ P.underlying t = some d ∧ q = (aggD d, i.size) := by
  unfold lay at h
  split at h
  · rename_i i d h1 h2; exact ⟨i, d, h1, h2, (Option.some.inj h).symm⟩
  · cases h

theorem run_isAgg {P : Program} {t : TypeId} {d : TypeDesc} (h : P.underlying t = some d) (w : World) : (isAgg t).run P w = .ok (aggD d) w := by
  cases d <;> simp [isAgg, run_underlying h, aggD]

theorem run_sizeOf' {P : Program} {t : TypeId} {i : TypeInfo} (h : P.info? t = some i) (w : World) : (sizeOf t).run P w = .ok i.size w := by
  simp [sizeOf, typeInfo, h]

theorem run_zero {P : Program} {t : TypeId} {i : TypeInfo} {z : Value} (h : P.info? t = some i) (hz : i.zero = some z) (w : World) : (zeroValue t).run P w = .ok z w := by
  simp [zeroValue, typeInfo, h, hz]

theorem szOf_info {P : Program} {t : TypeId} {i : TypeInfo} (h : P.info? t = some i) : szOf P t = i.size := by simp [szOf, Program.cellsOf, h]
theorem byOf_info {P : Program} {t : TypeId} {i : TypeInfo} (h : P.info? t = some i) : byOf P t = i.bytes := by simp [byOf, Program.bytesOf, h]
theorem szOf_pos {P : Program} {t : TypeId} (h : 0 < szOf P t) : ∃ i, P.info? t = some i ∧ i.size = szOf P t ∧ i.bytes = byOf P t := by
  cases hi : P.info? t with
  | none => simp [szOf, Program.cellsOf, hi] at h
  | some i => exact ⟨i, rfl, (szOf_info hi).symm, (byOf_info hi).symm⟩
theorem elemT_some {P : Program} {t e : TypeId} (h : elemT P t = some e) : P.underlying t = some (.slice e) := by
  unfold elemT at h; split at h
  · rename_i e' h1; cases h; exact h1
  · cases h
theorem arrT_some {P : Program} {t n : Nat} {e : TypeId} (h : arrT P t = some (n, e)) : P.underlying t = some (.array n e) := by
  unfold arrT at h; split at h
  · rename_i h1; cases h; exact h1
  · cases h
theorem strT_true {P : Program} {t : TypeId} (h : strT P t = true) : P.underlying t = some .string := by
  unfold strT at h; split at h
  · rename_i h1; exact h1
  · cases h
theorem intT_some {P : Program} {t : TypeId} {k : IntKind} (h : intT P t = some k) : P.underlying t = some (.int k) := by
  unfold intT at h; split at h
  · rename_i h1; cases h; exact h1
  · cases h
theorem zeroT_some {P : Program} {t : TypeId} {cs : List AVal} (h : zeroT P t = some cs) : ∃ i z, P.info? t = some i ∧ i.zero = some z ∧ cs = (ofVal z).cells := by
  unfold zeroT at h
  cases hi : P.info? t with
  | none => simp [hi] at h
  | some i =>
    cases hz : i.zero with
    | none => simp [hi, hz] at h
    | some z => simp [hi, hz] at h; exact ⟨i, z, rfl, hz, h.symm⟩

theorem mkV_some {g : Bool} {cs : List AVal} {v : AVal} (h : mkV g cs = some v) : (g = true ∧ v = .agg cs) ∨ (g = false ∧ cs = [v]) := by
  unfold mkV at h
  split at h
  · rename_i hg; cases h; exact .inl ⟨hg, rfl⟩
  · rename_i hg
    split at h
    · cases h; exact .inr ⟨by simpa using hg, rfl⟩
    · cases h

/-- What is made of cells that are read. -/
theorem run_loadVar {t : TypeId} {q : Bool × Nat} {a : Addr} {vals : List Value} {cs : List AVal} {v : AVal} (hl : lay C.P t = some q)
    (hn : vals.length = (if q.1 = true then q.2 else 1)) (hc : cs.length = (if q.1 = true then q.2 else 1)) (hcell : ∀ (j : Nat) u, vals[j]? = some u → w.cell? (a.add j) = some u)
    (hv : ∀ (j : Nat) x u, cs[j]? = some x → vals[j]? = some u → V w E x u) (hm : mkV q.1 cs = some v) : ∃ u, (loadVar t a).run C.P w = .ok u w ∧ V w E v u := by
  obtain ⟨i, d, hi, hd, rfl⟩ := lay_some hl
  rcases mkV_some hm with ⟨hg, rfl⟩ | ⟨hg, rfl⟩
  · have hg' : aggD d = true := hg
    simp only [hg', if_true] at hn hc
    refine ⟨.agg vals.toArray, ?_, .agg _ _ (by simp [hn, hc]) (fun j x u hx hu => hv j x u hx (by simpa using hu))⟩
    have := run_loadCells_list (P := C.P) w a vals hcell
    rw [hn] at this
    simp [loadVar, run_isAgg hd, hg', run_sizeOf' hi, this]
  · have hg' : aggD d = false := hg
    simp only [hg', Bool.false_eq_true, if_false] at hn
    obtain ⟨u, rfl⟩ : ∃ u, vals = [u] := List.length_eq_one_iff.1 hn
    refine ⟨u, ?_, hv 0 v u rfl rfl⟩
    have := hcell 0 u rfl
    rw [show a.add 0 = a from rfl] at this
    simp [loadVar, run_isAgg hd, hg', this]

theorem part_sound {t : TypeId} {q : Bool × Nat} {xs cs : List AVal} {vs : Array Value} {off : Nat} {v : AVal} (hl : lay C.P t = some q) (hvl : VL w E xs vs)
    (ht : takeN (if q.1 = true then q.2 else 1) (xs.drop off) = some cs) (hm : mkV q.1 cs = some v) : ∃ u, (part t vs off).run C.P w = .ok u w ∧ V w E v u := by
  obtain ⟨i, d, hi, hd, rfl⟩ := lay_some hl
  obtain ⟨h1, rfl⟩ := takeN_some ht
  rcases mkV_some hm with ⟨hg, rfl⟩ | ⟨hg, he⟩
  · have hg' : aggD d = true := hg
    simp only [hg', if_true] at h1 ⊢
    refine ⟨.agg (vs.extract off (off + i.size)), by simp [part, run_isAgg hd, hg', run_sizeOf' hi], .agg _ _ ?_ (fun j x u hx hu => ?_)⟩
    · have := hvl.1
      simp at h1 ⊢; omega
    · rw [List.getElem?_take] at hx
      split at hx
      · rw [List.getElem?_drop] at hx
        rw [Array.getElem?_extract] at hu
        split at hu
        · exact hvl.2 _ x u hx hu
        · cases hu
      · cases hx
  · have hg' : aggD d = false := hg
    simp only [hg', Bool.false_eq_true, if_false] at h1 he
    have hx : xs[off]? = some v := by
      have : ((xs.drop off).take 1)[0]? = some v := by rw [he]; rfl
      rw [List.getElem?_take, if_pos (by omega), List.getElem?_drop] at this
      simpa using this
    have hlt : off < vs.size := by rw [hvl.1]; exact (List.getElem?_eq_some_iff.1 hx).1
    refine ⟨vs[off], ?_, hvl.2 off v _ hx (Array.getElem?_eq_getElem hlt)⟩
    simp [part, run_isAgg hd, hg', hlt]

end

theorem int_run {P : Program} {w : World} {op : BinOp} {k : IntKind} {x y : Int} {v : AVal} (t : TypeId) (h : intA op k x y = some v) :
    ∃ u, (binOp op t (.int k x) (.int k y)).run P w = .ok u w ∧ ∀ E, V w E v u := by
  cases op <;> simp only [intA] at h
  case add => cases h; exact ⟨.int k (k.wrap (x + y)), by simp [binOp, Op.intArith], fun E => V.int⟩
  case sub => cases h; exact ⟨.int k (k.wrap (x - y)), by simp [binOp, Op.intArith], fun E => V.int⟩
  case mul => cases h; exact ⟨.int k (k.wrap (x * y)), by simp [binOp, Op.intArith], fun E => V.int⟩
  case quo =>
    split at h
    · cases h
    · rename_i h0; cases h; exact ⟨.int k (k.wrap (x.tdiv y)), by simp [binOp, Op.intDiv, h0], fun E => V.int⟩
  case rem =>
    split at h
    · cases h
    · rename_i h0; cases h; exact ⟨.int k (x.tmod y), by simp [binOp, Op.intDiv, h0], fun E => V.int⟩
  case and => cases h; exact ⟨.int k (bitsA .and k x y), by simp [binOp, Op.intBits, bitsA], fun E => V.int⟩
  case or => cases h; exact ⟨.int k (bitsA .or k x y), by simp [binOp, Op.intBits, bitsA], fun E => V.int⟩
  case xor => cases h; exact ⟨.int k (bitsA .xor k x y), by simp [binOp, Op.intBits, bitsA], fun E => V.int⟩
  case andNot => cases h; exact ⟨.int k (bitsA .andNot k x y), by simp [binOp, Op.intBits, bitsA], fun E => V.int⟩
  case eql => cases h; exact ⟨.bool (decide (x = y)), by simp only [binOp, Op.intCmp, ne_eq, not_true_eq_false, if_false, Sem.run_pure]; rfl, fun E => V.bool⟩
  case neq => cases h; exact ⟨.bool (decide (x ≠ y)), by simp only [binOp, Op.intCmp, ne_eq, not_true_eq_false, if_false, Sem.run_pure]; by_cases h : x = y <;> simp [h], fun E => V.bool⟩
  case lss => cases h; exact ⟨.bool (decide (x < y)), by simp [binOp, Op.intCmp], fun E => V.bool⟩
  case leq => cases h; exact ⟨.bool (decide (x ≤ y)), by simp [binOp, Op.intCmp], fun E => V.bool⟩
  case gtr => cases h; exact ⟨.bool (decide (x > y)), by simp [binOp, Op.intCmp], fun E => V.bool⟩
  case geq => cases h; exact ⟨.bool (decide (x ≥ y)), by simp [binOp, Op.intCmp], fun E => V.bool⟩
  all_goals cases h

theorem shift_run {P : Program} {w : World} {op : BinOp} {k k' : IntKind} {x y : Int} {v : AVal} (h : shiftA op k x y = some v) :
    ∃ u, (Op.shift op k x k' y).run P w = .ok u w ∧ ∀ E, V w E v u := by
  unfold shiftA at h
  split at h
  · cases h
  · rename_i h0
    cases op <;> simp only at h
    case shl => cases h; exact ⟨.int k (k.wrap (x * 2 ^ (min y.toNat k.bits))), by simp [Op.shift, h0], fun E => V.int⟩
    case shr => cases h; exact ⟨.int k (x.fdiv (2 ^ (min y.toNat k.bits))), by simp [Op.shift, h0], fun E => V.int⟩
    all_goals cases h

theorem byteArray_ext {a b : ByteArray} (h : a.data.toList = b.data.toList) : a = b := by
  cases a; cases b; simp at h; rw [h]

theorem byteArray_toList (a : ByteArray) : a.toList = a.data.toList := by
  have key : ∀ (n i : Nat) (r : List UInt8), a.size - i = n → ByteArray.toList.loop a i r = r.reverse ++ a.data.toList.drop i := by
    intro n
    induction n with
    | zero =>
      intro i r h
      unfold ByteArray.toList.loop
      rw [if_neg (by omega)]
      rw [List.drop_eq_nil_of_le (by rw [Array.length_toList]; have : a.data.size = a.size := rfl; omega)]
      simp
    | succ n ih =>
      intro i r h
      unfold ByteArray.toList.loop
      have hi : i < a.size := by omega
      rw [if_pos hi, ih (i + 1) _ (by omega)]
      have hi' : i < a.data.toList.length := by rw [Array.length_toList]; exact hi
      rw [List.drop_eq_getElem_cons hi']
      have : a.get! i = a.data.toList[i] := by
        show a.data[i]! = _
        rw [Array.getElem_toList]
        have hd : i < a.data.size := hi
        exact getElem!_pos a.data i hd
      rw [this]; simp
  unfold ByteArray.toList
  rw [key a.size 0 [] (by omega)]; simp

theorem str_run {P : Program} {w : World} {op : BinOp} {a b : ByteArray} {x y : List UInt8} (ha : a.data.toList = x) (hb : b.data.toList = y) {v : AVal} (t : TypeId) (h : strA op x y = some v) :
    ∃ u, (binOp op t (.string a) (.string b)).run P w = .ok u w ∧ ∀ E, V w E v u := by
  have la : a.size = x.length := by rw [← ha, Array.length_toList]; rfl
  have lb : b.size = y.length := by rw [← hb, Array.length_toList]; rfl
  have e1 : (x == y) = decide (x = y) := by by_cases h : x = y <;> simp [h]
  cases op <;> simp only [strA] at h
  case add =>
    split at h
    · rename_i hle
      cases h
      refine ⟨.string (a ++ b), ?_, fun E => V.str ?_⟩
      · have : ¬ (((a.size + b.size : Nat) : Int) > IntKind.i64.max) := by
          have : IntKind.i64.max = 9223372036854775807 := rfl
          rw [this]; omega
        simp only [binOp, Op.stringOp]
        rw [if_neg this]; rfl
      · rw [ByteArray.data_append, Array.toList_append, ha, hb]
    · cases h
  case eql => cases h; exact ⟨.bool (decide (x = y)), by simp only [binOp, Op.stringOp, byteArray_toList, ha, hb, e1]; rfl, fun E => V.bool⟩
  case neq => cases h; exact ⟨.bool (decide (x ≠ y)), by simp only [binOp, Op.stringOp, byteArray_toList, ha, hb, e1]; by_cases h : x = y <;> simp [h], fun E => V.bool⟩
  case lss => cases h; exact ⟨.bool (Op.bytesLess x y), by simp only [binOp, Op.stringOp, byteArray_toList, ha, hb]; rfl, fun E => V.bool⟩
  case leq => cases h; exact ⟨.bool (Op.bytesLess x y || decide (x = y)), by simp only [binOp, Op.stringOp, byteArray_toList, ha, hb, e1]; rfl, fun E => V.bool⟩
  case gtr => cases h; exact ⟨.bool (!(Op.bytesLess x y || decide (x = y))), by simp only [binOp, Op.stringOp, byteArray_toList, ha, hb, e1]; rfl, fun E => V.bool⟩
  case geq => cases h; exact ⟨.bool (!(Op.bytesLess x y)), by simp only [binOp, Op.stringOp, byteArray_toList, ha, hb]; rfl, fun E => V.bool⟩
  all_goals cases h

theorem un_run {P : Program} {w : World} {E : Env} {op : UnOp} {x v : AVal} {xv : Value} (hx : V w E x xv) (h : unA op x = some v) : ∃ u, (Op.unary op xv).run P w = .ok u w ∧ V w E v u := by
  unfold unA at h
  split at h
  · rename_i k n; cases h; rw [hx.int_inv]; exact ⟨.int k (k.wrap (0 - n)), by simp [Op.unary, Op.intArith], V.int⟩
  · rename_i k n; cases h; rw [hx.int_inv]; exact ⟨_, by simp only [Op.unary, Op.intBits, Sem.run_pure]; rfl, V.int⟩
  · rename_i b; cases h; rw [hx.bool_inv]; exact ⟨.bool (!b), by simp [Op.unary], V.bool⟩
  · cases h

end Go.Proofs.YtaajfbcopafkaaaGreatDoor.Ai
