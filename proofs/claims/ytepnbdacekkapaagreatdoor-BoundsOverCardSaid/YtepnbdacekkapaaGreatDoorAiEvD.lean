/- The operations over a reading function in place of the list of blocks; printed by evgen.py. Own work of this seat. -/
import Derived.Test.YtepnbdacekkapaaGreatDoorAiLe
namespace Go.Proofs.YtepnbdacekkapaaGreatDoor.Ai
open Go
set_option linter.unusedVariables false
set_option linter.unusedSimpArgs false

/-! What the kernel cannot run is written anew. -/
def goQ (P : Program) (lv : TypeId → Option (List LK)) (size : Nat) : List Field → Nat → Option (List LK)
  | [], off => if off = size then some [] else none
  | f :: fs, off => if f.name = "_" then none else if f.offset = off then (lv f.type).bind fun l => (goQ P lv size fs (off + szOf P f.type)).map (l ++ ·) else none
def leavesQ (P : Program) (n : Nat) : TypeId → Option (List LK) :=
  Nat.rec (motive := fun _ => TypeId → Option (List LK)) (fun _ => none) (fun _ ih t =>
    match P.underlying t with
    | some .bool => if szOf P t = 1 then some [.b] else none
    | some (.int _) => if szOf P t = 1 then some [.i] else none
    | some .string => if szOf P t = 1 then some [.s] else none
    | some (.struct fs) => if P.stoodInHeld t = true then none else goQ P ih (szOf P t) fs.toList 0
    | some (.array n e) => if szOf P t = n * szOf P e then (ih e).map fun l => (List.replicate n l).flatten else none
    | _ => none) n
theorem goQ_eq {P : Program} {d size : Nat} {lv : TypeId → Option (List LK)} (h : ∀ t, lv t = leavesT P d t) : ∀ (fs : List Field) (off : Nat), goQ P lv size fs off = leavesT.go P d size fs off := by
  intro fs
  induction fs with
  | nil => intro off; simp only [goQ, leavesT.go]
  | cons f fs ih => intro off; simp only [goQ, leavesT.go, h, ih]
theorem leavesQ_eq {P : Program} : ∀ (d : Nat) (t : TypeId), leavesQ P d t = leavesT P d t := by
  intro d
  induction d with
  | zero => intro t; simp only [leavesT]; rfl
  | succ d ih =>
    intro t
    have : leavesQ P (d + 1) t = (match P.underlying t with
      | some .bool => if szOf P t = 1 then some [.b] else none
      | some (.int _) => if szOf P t = 1 then some [.i] else none
      | some .string => if szOf P t = 1 then some [.s] else none
      | some (.struct fs) => if P.stoodInHeld t = true then none else goQ P (leavesQ P d) (szOf P t) fs.toList 0
      | some (.array n e) => if szOf P t = n * szOf P e then (leavesQ P d e).map fun l => (List.replicate n l).flatten else none
      | _ => none) := rfl
    rw [this, leavesT]
    cases P.underlying t with
    | none => rfl
    | some d => cases d <;> first | rfl | simp only [goQ_eq ih, ih]
def eqQ (P : Program) (t : TypeId) (x y : AVal) : Option Bool :=
  match x, y with
  | .bool a, .bool b => if boolT P t = true then some (decide (a = b)) else none
  | .agg cs, .agg ds => (lay P t).bind fun q => if q.1 = true then (leavesQ P 8 t).bind fun ks => eqL ks cs ds else none
  | .func _ _ _, .nilfunc => if funcT P t = true then some false else none
  | .nilfunc, .nilfunc => if funcT P t = true then some true else none
  | _, _ => none
theorem eqQ_eq {P : Program} : eqQ P = eqA P := by funext t x y; unfold eqQ eqA; simp only [leavesQ_eq] <;> rfl
def binQ (P : Program) (op : BinOp) (t : TypeId) (x y : AVal) : Option AVal :=
  match x, y with
  | .int k a, .int k' b =>
    (match op with
    | .shl => shiftA .shl k a b
    | .shr => shiftA .shr k a b
    | op => if k = k' then intA op k a b else none)
  | .str a, .str b => strA op a b
  | x, y =>
    (match op with
    | .eql => (eqQ P t x y).map .bool
    | .neq => (eqQ P t x y).map fun r => .bool (!r)
    | _ => none)
theorem binQ_eq {P : Program} : binQ P = binA P := by funext a b x y; unfold binQ binA; rw [eqQ_eq] <;> rfl
def findQ (P : Program) (kt : TypeId) (k : List AVal) : List (AVal × AVal × Nat) → Nat → Option (Option (Nat × AVal × Nat))
  | [], _ => some none
  | (.agg k', v, n) :: rest, i =>
    (match (leavesQ P 8 kt).bind fun ks => eqL ks k k' with
    | some true => some (some (i, v, n))
    | some false => findQ P kt k rest (i + 1)
    | none => none)
  | _ :: _, _ => none
theorem findQ_eq {P : Program} {kt : TypeId} {k : List AVal} : ∀ (l : List (AVal × AVal × Nat)) (i : Nat), findQ P kt k l i = findX P kt k l i := by
  intro l
  induction l with
  | nil => intro i; rfl
  | cons p l ih =>
    intro i
    obtain ⟨a, v, n⟩ := p
    cases a <;> simp only [findQ, findX, leavesQ_eq, ih] <;> rfl
def keyQ (P : Program) (kt : TypeId) (k : List AVal) : Bool :=
  match lay P kt with
  | some q => q.1 && (match leavesQ P 8 kt with | some ks => ks.length == k.length | none => false)
  | none => false
theorem keyQ_eq {P : Program} : keyQ P = keyOK P := by funext a b; unfold keyQ keyOK; rw [leavesQ_eq] <;> rfl

def curOfE (gt : Nat → Option Blk) (b : Nat) : Option Nat :=
  match gt b with
  | some (.buf _ _ rows _) => some rows.length
  | some (.nbuf _ _) => some 0
  | some (.arr _ _ rows) => some rows.length
  | _ => none

def solidE (gt : Nat → Option Blk) : AVal → Bool
  | .agg _ => false
  | .tup _ => false
  | .undef => false
  | .dead => false
  | .bsl b n => curOfE gt b == some n
  | .eptr b n _ _ => curOfE gt b == some n
  | .sub b n _ _ _ => curOfE gt b == some n
  | _ => true

def cellsOKE (gt : Nat → Option Blk) : AVal → Bool
  | .dead => false
  | .bsl b n => curOfE gt b == some n
  | .eptr b n _ _ => curOfE gt b == some n
  | .sub b n _ _ _ => curOfE gt b == some n
  | _ => true

def rdCellsE (gt : Nat → Option Blk) (p : AVal) (n : Nat) : Option (List AVal) :=
  match p with
  | .ptr b off => (match gt b with | some (.cells _ cs) => takeN n (cs.drop off) | _ => none)
  | .eptr b m i j => (match gt b with
    | some (.buf _ _ rows _) => if rows.length = m then (match rows[i]? with | some r => takeN n (r.drop j) | none => none) else none
    | some (.arr _ _ rows) => if rows.length = m then (match rows[i]? with | some r => takeN n (r.drop j) | none => none) else none
    | _ => none)
  | .rptr cs => takeN n cs
  | _ => none

def wrCellsE (gt : Nat → Option Blk) (p : AVal) (vs : List AVal) : Option (Nat × Blk) :=
  match p with
  | .ptr b off => (match gt b with | some (.cells t cs) => if off + vs.length ≤ cs.length then some (b, .cells t (setAt cs off vs)) else none | _ => none)
  | .eptr b m i j => (match gt b with
    | some (.buf t sz rows cap) => if rows.length = m then (match rows[i]? with
      | some r => if j + vs.length ≤ r.length then (if vs.all (fun x => cellish x && noref x) = true then some (b, .buf t sz (rows.set i (setAt r j vs)) cap) else none) else none
      | none => none) else none
    | some (.arr t sz rows) => if rows.length = m then (match rows[i]? with
      | some r => if j + vs.length ≤ r.length then some (b, .arr t sz (rows.set i (setAt r j vs))) else none
      | none => none) else none
    | _ => none)
  | _ => none

def ptrAddE (gt : Nat → Option Blk) (p : AVal) (off : Nat) : Option AVal :=
  match p with
  | .ptr b o => some (.ptr b (o + off))
  | .eptr b n i j => if curOfE gt b = some n then some (.eptr b n i (j + off)) else none
  | .rptr cs => some (.rptr (cs.drop off))
  | _ => none

def rowsOfE (gt : Nat → Option Blk) : AVal → Option (Nat × List (List AVal))
  | .slc sz rows _ => some (sz, rows)
  | .bsl b n => (match gt b with
    | some (.buf _ sz rows _) => if rows.length = n then some (sz, rows) else none
    | some (.nbuf _ sz) => if n = 0 then some (sz, []) else none
    | _ => none)
  | _ => none

def convAE (P : Program) (gt : Nat → Option Blk) (own : Bool) (src dst : TypeId) (x : AVal) : Option AVal :=
  if okT P src = true then
    (match x with
    | .int _ n => (match intT P dst with
      | some k => some (.int k (k.wrap n))
      | none => if strT P dst = true then some (.str (encRune n)) else none)
    | .str s => if strT P dst = true then some (.str s) else
      (match elemT P dst with
      | some e => if own = true then none else if s.length ≤ 9223372036854775807 then (match intT P e with
        | some .u8 => some (.slc 1 (s.map bytesRow) none)
        | some .i32 => some (.slc 1 ((runesL s s.length 0).map runeRow) none)
        | _ => none) else none
      | none => none)
    | x => if strT P dst = true then
        (match elemT P src, rowsOfE gt x with
        | some e, some (sz, rows) => if sz = 1 ∨ rows.length = 0 then (match intT P e with
          | some .u8 => (bytesOfRows rows).map fun s => .str s
          | some .i32 => (runesOfRows rows).map fun l => .str (l.map encRune).flatten
          | _ => none) else none
        | _, _ => none)
      else none)
  else none

def markAE (P : Program) (gt : Nat → Option Blk) (src dst : TypeId) (x : AVal) : Option (AVal × List (Nat × Blk)) :=
  match x with
  | .bsl b n => (match gt b with
    | some (.buf _ sz rows cap) => if src = dst ∧ (elemT P src).bind (intT P) = some .u8 ∧ rows.length = n then some (.slc sz rows cap, [(b, .gone)]) else none
    | _ => none)
  | _ => none

def sliceAE (P : Program) (gt : Nat → Option Blk) (t : TypeId) (x : AVal) (lo hi mx : Option AVal) : Option (AVal × List (Nat × Blk)) :=
  match x with
  | .str s => if strT P t = true then
      (match mx with
      | none => (match optNat 0 lo, optNat s.length hi with
        | some l, some h => if l ≤ h then (if h ≤ s.length then some (.str ((s.take h).drop l), []) else none) else none
        | _, _ => none)
      | some _ => none)
    else none
  | .slc sz rows cap => (elemT P t).bind fun e => if lay P e = none then none else if sz = szOf P e ∨ rows.length = 0 then (cutRows sz rows cap lo hi mx).map (·, []) else none
  | .bsl b n => (match gt b with
    | some (.buf _ sz rows cap) => if rows.length = n then ((elemT P t).bind fun e => if sz = szOf P e then (cutRows sz rows cap lo hi mx).map (·, [(b, .gone)]) else none) else none
    | some (.nbuf _ sz) => if n = 0 then ((elemT P t).bind fun e => if sz = szOf P e then (if 0 < sz then (cutRows sz [] (some 0) lo hi mx).map (·, [(b, .gone)]) else none) else none) else none
    | _ => none)
  | .rptr cs => (match arrT P t with
    | some (n, e) => if cs.length = n * szOf P e then (if 0 < szOf P e ∧ n ≤ 16777216 then (cutRows (szOf P e) (chunks (szOf P e) n cs) (some n) lo hi mx).map (·, []) else none) else none
    | none => none)
  | _ => none

def newRowsE (P : Program) (gt : Nat → Option Blk) (tx : TypeId) (x : AVal) : Option (Nat × List (List AVal)) :=
  match x with
  | .str s => if strT P tx = true then some (1, s.map bytesRow) else none
  | x => if (elemT P tx).isSome = true then rowsOfE gt x else none

def lenSE (P : Program) (gt : Nat → Option Blk) (t : TypeId) (x : AVal) : Option AVal :=
  match x with
  | .bsl b n => if (elemT P t).isSome = true then (if curOfE gt b = some n then some (.int .i64 n) else none) else none
  | x => lenA P t x

def capAE (P : Program) (gt : Nat → Option Blk) (t : TypeId) (x : AVal) : Option AVal :=
  match x with
  | .slc _ _ (some c) => if (elemT P t).isSome = true then some (.int .i64 c) else none
  | .bsl b n => (match gt b with
    | some (.buf _ _ rows (some c)) => if rows.length = n then (if (elemT P t).isSome = true then some (.int .i64 c) else none) else none
    | some (.nbuf _ _) => if n = 0 then (if (elemT P t).isSome = true then some (.int .i64 0) else none) else none
    | _ => none)
  | _ => none

def goBE (P : Program) (gt : Nat → Option Blk) (t : TypeId) : List AVal → List (Nat × AVal) → Option (List AVal)
  | cs, [] => some cs
  | cs, (f, v) :: rest =>
    match partA P t f with
    | some (off, n) => if cellsOKE gt v = true then (if v.cells.length = n then (if off + v.cells.length ≤ cs.length then goBE P gt t (setAt cs off v.cells) rest else none) else none) else none
    | none => none

def buildAE (P : Program) (gt : Nat → Option Blk) (t : TypeId) (parts : List (Nat × AVal)) : Option (List AVal) :=
  if (structT P t).isSome || ((arrT P t).bind fun p => lay P p.2).isSome then (zeroT P t).bind fun z => goBE P gt t z parts else none

def goRE (P : Program) (gt : Nat → Option Blk) (e : TypeId) : List (List AVal) → List (Nat × AVal) → Option (List (List AVal))
  | rows, [] => some rows
  | rows, (i, v) :: rest => if cellsOKE gt v = true then (if v.cells.length = szOf P e then (if i < rows.length then goRE P gt e (rows.set i v.cells) rest else none) else none) else none

def rowsAE (P : Program) (gt : Nat → Option Blk) (e : TypeId) (len : Nat) (parts : List (Nat × AVal)) : Option (List (List AVal)) :=
  (zeroT P e).bind fun z => if z.length = szOf P e then goRE P gt e (List.replicate len z) parts else none

def idxAE (P : Program) (gt : Nat → Option Blk) (t : TypeId) (x : AVal) (i : Int) : Option AVal :=
  if 0 ≤ i then
    match x with
    | .slc sz rows _ => (elemT P t).bind fun e => if sz = szOf P e then (if 0 < sz then (match rows[i.toNat]? with | some r => some (.rptr r) | none => none) else none) else none
    | .bsl b n => (elemT P t).bind fun e => (match gt b with
      | some (.buf _ sz rows _) => if rows.length = n then (if sz = szOf P e then (if i.toNat < n then some (.eptr b n i.toNat 0) else none) else none) else none
      | _ => none)
    | x => (match arrT P t with
      | some (n, e) => if i.toNat < n then (lay P e).bind fun q => ptrAddE gt x (i.toNat * q.2) else none
      | none => none)
  else none

def newRowsXE (P : Program) (gt : Nat → Option Blk) (tx : TypeId) (x : AVal) : Option (Nat × List (List AVal)) :=
  match x with
  | .sub b n lo len _ => if (elemT P tx).isSome = true then (match gt b with
    | some (.arr _ sz rows) => if rows.length = n then some (sz, (rows.drop lo).take len) else none
    | _ => none) else none
  | x => newRowsE P gt tx x

def appendBE (P : Program) (gt : Nat → Option Blk) (id : Nat) (e : TypeId) (new : List (List AVal)) (s : AVal) : Option (AVal × List (Nat × Blk)) :=
  match s with
  | .slc sz [] (some 0) => if new = [] then some (.slc sz [] (some 0), []) else
    (if new.length * byOf P e ≤ maxRoom then (if new.length ≤ 9223372036854775807 then some (.sub id new.length 0 new.length none, [(id, .arr e (szOf P e) new)]) else none) else none)
  | .sub b n lo len cap => (match gt b with
    | some (.arr te sz rows) =>
      if rows.length = n then (if te = e then (if sz = szOf P e then (if (len + new.length) * byOf P e ≤ maxRoom then (if len + new.length ≤ 9223372036854775807 then
        appendC id e new b n lo len cap te sz rows
      else none) else none) else none) else none) else none
    | _ => none)
  | _ => none

def appendXE (P : Program) (gt : Nat → Option Blk) (id : Nat) (t tx : TypeId) (s x : AVal) : Option (AVal × List (Nat × Blk)) :=
  match elemT P t, newRowsXE P gt tx x with
  | some e, some (sx, new) => if 0 < szOf P e then (if zokT P e = true then (if sx = szOf P e ∨ new.length = 0 then appendBE P gt id e new s else none) else none) else none
  | _, _ => none

def sliceXE (P : Program) (gt : Nat → Option Blk) (t : TypeId) (x : AVal) (lo hi mx : Option AVal) : Option (AVal × List (Nat × Blk)) :=
  match x with
  | .sub b n l0 len cap => (elemT P t).bind fun e => (match gt b with
    | some (.arr _ sz rows) => if rows.length = n then (if sz = szOf P e then (subCut b n l0 len cap lo hi mx).map (·, []) else none) else none
    | _ => none)
  | .ptr b off => (match arrT P t with
    | some (n, e) => if 0 < szOf P e then (match optNat 0 lo, optNat n hi, mx with
      | some l, some h, none => if l ≤ h then (if h ≤ n then (if l < n then some (.csl b (off + l * szOf P e) (szOf P e) (h - l) (n - l), []) else none) else none) else none
      | _, _, _ => none) else none
    | none => none)
  | _ => none

def idxXE (P : Program) (gt : Nat → Option Blk) (t : TypeId) (x : AVal) (i : Int) : Option AVal :=
  if 0 ≤ i then
    match x with
    | .sub b n lo len _ => (elemT P t).bind fun e => (match gt b with
      | some (.arr _ sz rows) => if rows.length = n then (if sz = szOf P e then (if i.toNat < len then some (.eptr b n (lo + i.toNat) 0) else none) else none) else none
      | _ => none)
    | .csl b off sz len _ => (elemT P t).bind fun e => if sz = szOf P e then (if 0 < sz then (if i.toNat < len then some (.ptr b (off + i.toNat * sz)) else none) else none) else none
    | _ => none
  else none

def lenXE (P : Program) (gt : Nat → Option Blk) (t : TypeId) (x : AVal) : Option AVal :=
  match x with
  | .sub b n _ len _ => if (elemT P t).isSome = true then (if curOfE gt b = some n then some (.int .i64 len) else none) else none
  | .csl _ _ _ len _ => if (elemT P t).isSome = true then some (.int .i64 len) else none
  | .mapr b => if (mapT P t).isSome = true then (match gt b with | some (.map es _) => some (.int .i64 es.length) | _ => none) else none
  | .nilmap => if (mapT P t).isSome = true then some (.int .i64 0) else none
  | _ => none

def capXE (P : Program) (gt : Nat → Option Blk) (t : TypeId) (x : AVal) : Option AVal :=
  match x with
  | .sub b n _ _ (some c) => if (elemT P t).isSome = true then (if curOfE gt b = some n then some (.int .i64 c) else none) else none
  | .csl _ _ _ _ c => if (elemT P t).isSome = true then some (.int .i64 c) else none
  | _ => none

def copyXE (P : Program) (gt : Nat → Option Blk) (t tx : TypeId) (d x : AVal) : Option (AVal × List (Nat × Blk)) :=
  match elemT P t, newRowsXE P gt tx x with
  | some e, some (sx, new) =>
    (match d with
    | .sub b n lo len _ => (match gt b with
      | some (.arr te sz rows) => if rows.length = n then (if te = e then (if sz = szOf P e then (if sx = szOf P e ∨ new.length = 0 then (if new.length ≤ len then
          some (.int .i64 new.length, [(b, .arr te sz (rows.take lo ++ new ++ rows.drop (lo + new.length)))]) else none) else none) else none) else none) else none
      | _ => none)
    | .csl b off sz len _ => (match gt b with
      | some (.cells t0 cs) => if sz = szOf P e then (if 0 < sz then (if sx = szOf P e ∨ new.length = 0 then (if new.length ≤ len then (if off + new.length * sz ≤ cs.length then
          (if new.flatten.length = new.length * sz then some (.int .i64 new.length, [(b, .cells t0 (setAt cs off new.flatten))]) else none) else none) else none) else none) else none) else none
      | _ => none)
    | _ => none)
  | _, _ => none

def lookME (P : Program) (gt : Nat → Option Blk) (kt : TypeId) (ks : List AVal) : AVal → Option (Option (Nat × AVal × Nat))
  | .mapr b => (match gt b with | some (.map es _) => findQ P kt ks es 0 | _ => none)
  | .nilmap => some none
  | _ => none

def lookXE (P : Program) (gt : Nat → Option Blk) (t : TypeId) (m k : AVal) (ok : Bool) : Option AVal :=
  match mapT P t, k with
  | some (kt, e), .agg ks =>
    if keyQ P kt ks = true then
      (lookME P gt kt ks m).bind fun r =>
        (match r with
        | some (_, v, _) => some (if ok = true then .tup [v, .bool true] else v)
        | none => (zeroV P e).map fun z => if ok = true then .tup [z, .bool false] else z)
    else none
  | _, _ => none

def updXE (P : Program) (gt : Nat → Option Blk) (t : TypeId) (m k v : AVal) : Option (List (Nat × Blk)) :=
  match mapT P t, m, k with
  | some (kt, _), .mapr b, .agg ks =>
    if keyQ P kt ks = true then
      (match gt b with
      | some (.map es clock) => (findQ P kt ks es 0).map fun r =>
        (match r with
        | some (i, _, n) => [(b, .map (es.set i (.agg ks, v, n)) clock)]
        | none => [(b, .map (es ++ [(.agg ks, v, clock)]) (clock + 1))])
      | _ => none)
    else none
  | _, _, _ => none

def entXE (P : Program) (gt : Nat → Option Blk) (t : TypeId) (m k : AVal) : Option (AVal × List (Nat × Blk)) :=
  match mapT P t, m, k with
  | some (kt, e), .mapr b, .agg ks =>
    if keyQ P kt ks = true then
      (match gt b with
      | some (.map es clock) => (findQ P kt ks es 0).bind fun r =>
        (match r with
        | some (i, v, n) => some (.tup [v, .int .i64 n], [(b, .map (es.set i (.agg ks, v, n)) clock)])
        | none => (zeroV P e).map fun z => (.tup [z, .int .i64 clock], [(b, .map (es ++ [(.agg ks, z, clock)]) (clock + 1))]))
      | _ => none)
    else none
  | _, _, _ => none

def storeXE (gt : Nat → Option Blk) (m s v : AVal) : Option (List (Nat × Blk)) :=
  match m, s with
  | .mapr b, .int _ n =>
    (match gt b with
    | some (.map es clock) => (es.findIdx? fun p => decide ((p.2.2 : Int) = n)).bind fun i => (es[i]?).map fun p => [(b, .map (es.set i (p.1, v, p.2.2)) clock)]
    | _ => none)
  | _, _ => none

def builtinXE (P : Program) (gt : Nat → Option Blk) (id : Nat) (b : Builtin) (ts : List TypeId) (args : List AVal) : Option (AVal × List (Nat × Blk)) :=
  match b, ts, args with
  | .len, [t], [x] => (lenXE P gt t x).map (·, [])
  | .cap, [t], [x] => (capXE P gt t x).map (·, [])
  | .append, [t, tx], [s, x] => appendXE P gt id t tx s x
  | .copy, [t, tx], [d, x] => copyXE P gt t tx d x
  | _, _, _ => none

def denxE (C : Ctx) (ρ : Operand → AVal) (gt : Nat → Option Blk) (id : Nat) (op : Op) : Option (AVal × List (Nat × Blk)) :=
  match op with
  | .buildSlice t len parts =>
    (match elemT C.P t with
    | some e => (rowsAE C.P gt e len (parts.toList.map fun p => (p.1, ρ p.2))).bind fun rows =>
      if 0 < szOf C.P e then (if len * szOf C.P e ≤ 16777216 then (if rows.all (fun r => r.all (solidE gt)) = true then some (.sub id len 0 len (some len), [(id, .arr e (szOf C.P e) rows)]) else none) else none) else none
    | none => none)
  | .makeSlice t l c => makeX C.P id t (ρ l) (ρ c)
  | .slice t x lo hi mx => sliceXE C.P gt t (ρ x) (lo.map ρ) (hi.map ρ) (mx.map ρ)
  | .indexAddr t x i => (match ρ i with | .int _ n => (idxXE C.P gt t (ρ x) n).map (·, []) | _ => none)
  | .makeMap t r => (match r with
    | none => if (mapT C.P t).isSome = true then some (.mapr id, [(id, .map [] 0)]) else none
    | some h => (match ρ h with | .int _ _ => if (mapT C.P t).isSome = true then some (.mapr id, [(id, .map [] 0)]) else none | _ => none))
  | .lookup t m k ok => (lookXE C.P gt t (ρ m) (ρ k) ok).map (·, [])
  | .mapUpdate t m k v => (updXE C.P gt t (ρ m) (ρ k) (ρ v)).map fun ws => (.undef, ws)
  | .mapEntry t m k => entXE C.P gt t (ρ m) (ρ k)
  | .entryStore _ m s v => (storeXE gt (ρ m) (ρ s) (ρ v)).map fun ws => (.undef, ws)
  | .insert t m k v => (updXE C.P gt t (ρ m) (ρ k) (ρ v)).map fun ws => (.undef, ws)
  | .call c => (match c.callee with
    | .builtin b => builtinXE C.P gt id b c.argTypes.toList (c.args.toList.map ρ)
    | _ => none)
  | _ => none

def builtinAE (P : Program) (gt : Nat → Option Blk) (id : Nat) (b : Builtin) (ts : List TypeId) (args : List AVal) : Option (AVal × List (Nat × Blk)) :=
  match b, ts, args with
  | .len, [t], [x] => (lenSE P gt t x).map (·, [])
  | .cap, [t], [x] => (capAE P gt t x).map (·, [])
  | .min, _, args => (minA args).map (·, [])
  | .max, _, args => (maxA args).map (·, [])
  | _, _, _ => none

def denE (C : Ctx) (ρ : Operand → AVal) (gt : Nat → Option Blk) (id : Nat) (own : Bool) (op : Op) : Option (AVal × List (Nat × Blk)) :=
  match op with
  | .move x => some (ρ x, [])
  | .assign x => some (ρ x, [])
  | .pick c a b => (match ρ c with | .bool t => some (if t = true then ρ a else ρ b, []) | _ => none)
  | .alloc t => (zeroT C.P t).map fun cs => (.ptr id 0, [(id, .cells t cs)])
  | .box t x => if (ρ x).cells.all (solidE gt) = true then some (.ptr id 0, [(id, .cells t (ρ x).cells)]) else none
  | .build t parts => (buildAE C.P gt t (parts.toList.map fun p => (p.1, ρ p.2))).map fun cs => (.agg cs, [])
  | .load t a => (lay C.P t).bind fun q => (rdCellsE gt (ρ a) (if q.1 = true then q.2 else 1)).bind fun cs => (mkV q.1 cs).map (·, [])
  | .store t a x =>
    (lay C.P t).bind fun q => if (ρ x).cells.length = q.2 then
      (if (ρ x).cells.all (solidE gt) = true then (wrCellsE gt (ρ a) (ρ x).cells).map fun w => (.undef, [w]) else none)
    else none
  | .nilCheck x => (match ρ x with
    | .ptr b o => some (.ptr b o, [])
    | .rptr cs => some (.rptr cs, [])
    | .func f a b => some (.func f a b, [])
    | _ => none)
  | .binOp op t x y _ => (binQ C.P op t (ρ x) (ρ y)).map (·, [])
  | .unOp op _ x => (unA op (ρ x)).map (·, [])
  | .convert src dst x => (match markAE C.P gt src dst (ρ x) with
    | some r => some r
    | none => (convAE C.P gt own src dst (ρ x)).map (·, []))
  | .makeFunc fn first caps => (match fn with
    | .func f => some (.func f (first.toList.map ρ) (caps.toList.map ρ), [])
    | _ => none)
  | .slice t x lo hi mx => sliceAE C.P gt t (ρ x) (lo.map ρ) (hi.map ρ) (mx.map ρ)
  | .fieldAddr t x f => (match fieldT C.P t f with
    | some (off, ft) => if szOf C.P ft = 0 then none else (ptrAddE gt (ρ x) off).map (·, [])
    | none => none)
  | .field t x f => (match fieldT C.P t f, ρ x with
    | some (off, ft), .agg cs => (lay C.P ft).bind fun q => ((takeN (if q.1 = true then q.2 else 1) (cs.drop off)).bind (mkV q.1)).map (·, [])
    | _, _ => none)
  | .indexAddr t x i => (match ρ i with | .int _ n => (idxAE C.P gt t (ρ x) n).map (·, []) | _ => none)
  | .index t x i => (match ρ i with | .int _ n => (indexA C.P t (ρ x) n).map (·, []) | _ => none)
  | .extract x i => (match ρ x with | .tup vs => (vs[i]?).map (·, []) | _ => none)
  | .call c => (match c.callee with
    | .builtin b => builtinAE C.P gt id b c.argTypes.toList (c.args.toList.map ρ)
    | _ => none)
  | _ => none

section
variable {P : Program} {sto : List Blk}

abbrev rd (sto : List Blk) : Nat → Option Blk := fun b => sto[b]?
theorem curOfE_eq : curOfE (rd sto) = curOf sto := rfl
theorem solidE_eq : solidE (rd sto) = solid sto := by funext x; cases x <;> rfl
theorem cellsOKE_eq : cellsOKE (rd sto) = cellsOK sto := by funext x; cases x <;> rfl
theorem rdCellsE_eq : rdCellsE (rd sto) = rdCells sto := by funext x n; cases x <;> rfl
theorem wrCellsE_eq : wrCellsE (rd sto) = wrCells sto := by funext x n; cases x <;> rfl
theorem ptrAddE_eq : ptrAddE (rd sto) = ptrAdd sto := by funext x n; cases x <;> rfl
theorem rowsOfE_eq : rowsOfE (rd sto) = rowsOf sto := by funext x; cases x <;> rfl
theorem convAE_eq : convAE P (rd sto) = convA P sto := by funext a b c x; unfold convAE convA; rw [rowsOfE_eq] <;> rfl
theorem markAE_eq : markAE P (rd sto) = markA P sto := by funext a b x; cases x <;> rfl
theorem sliceAE_eq : sliceAE P (rd sto) = sliceA P sto := by funext a x b c d; cases x <;> rfl
theorem newRowsE_eq : newRowsE P (rd sto) = newRows P sto := by funext a x; unfold newRowsE newRows; rw [rowsOfE_eq] <;> rfl
theorem lenSE_eq : lenSE P (rd sto) = lenS P sto := by funext a x; unfold lenSE lenS; rw [curOfE_eq] <;> rfl
theorem capAE_eq : capAE P (rd sto) = capA P sto := by funext a x; cases x <;> rfl
theorem goBE_eq {t : TypeId} : ∀ (l : List (Nat × AVal)) (cs : List AVal), goBE P (rd sto) t cs l = goB P sto t cs l := by
  intro l
  induction l with
  | nil => intro cs; rfl
  | cons p l ih => intro cs; obtain ⟨f, v⟩ := p; simp only [goBE, goB, cellsOKE_eq, ih] <;> rfl
theorem buildAE_eq : buildAE P (rd sto) = buildA P sto := by funext t l; unfold buildAE buildA; simp only [goBE_eq] <;> rfl
theorem goRE_eq {e : TypeId} : ∀ (l : List (Nat × AVal)) (rows : List (List AVal)), goRE P (rd sto) e rows l = goR P sto e rows l := by
  intro l
  induction l with
  | nil => intro cs; rfl
  | cons p l ih => intro cs; obtain ⟨f, v⟩ := p; simp only [goRE, goR, cellsOKE_eq, ih] <;> rfl
theorem rowsAE_eq : rowsAE P (rd sto) = rowsA P sto := by funext t n l; unfold rowsAE rowsA; simp only [goRE_eq] <;> rfl
theorem idxAE_eq : idxAE P (rd sto) = idxA P sto := by funext t x i; unfold idxAE idxA; rw [ptrAddE_eq] <;> rfl
theorem newRowsXE_eq : newRowsXE P (rd sto) = newRowsX P sto := by funext t x; unfold newRowsXE newRowsX; rw [newRowsE_eq] <;> rfl
theorem appendBE_eq : appendBE P (rd sto) = appendB P sto := rfl
theorem appendXE_eq : appendXE P (rd sto) = appendX P sto := by funext a b c d e; unfold appendXE appendX; rw [newRowsXE_eq, appendBE_eq] <;> rfl
theorem sliceXE_eq : sliceXE P (rd sto) = sliceX P sto := rfl
theorem idxXE_eq : idxXE P (rd sto) = idxX P sto := rfl
theorem lenXE_eq : lenXE P (rd sto) = lenX P sto := by funext t x; cases x <;> rfl
theorem capXE_eq : capXE P (rd sto) = capX P sto := rfl
theorem copyXE_eq : copyXE P (rd sto) = copyX P sto := by funext a b c d; unfold copyXE copyX; rw [newRowsXE_eq] <;> rfl
theorem lookME_eq : lookME P (rd sto) = lookM P sto := by funext a b x; cases x <;> simp only [lookME, lookM, findQ_eq] <;> rfl
theorem lookXE_eq : lookXE P (rd sto) = lookX P sto := by funext a b c d; unfold lookXE lookX; simp only [lookME_eq, keyQ_eq] <;> rfl
theorem updXE_eq : updXE P (rd sto) = updX P sto := by funext a b c d; unfold updXE updX; simp only [findQ_eq, keyQ_eq] <;> rfl
theorem entXE_eq : entXE P (rd sto) = entX P sto := by funext a b c; unfold entXE entX; simp only [findQ_eq, keyQ_eq] <;> rfl
theorem storeXE_eq : storeXE (rd sto) = storeX sto := rfl
theorem builtinXE_eq : builtinXE P (rd sto) = builtinX P sto := by funext a b c d; unfold builtinXE builtinX; simp only [lenXE_eq, capXE_eq, appendXE_eq, copyXE_eq] <;> rfl
theorem denxE_eq {C : Ctx} {ρ : Operand → AVal} {id : Nat} {op : Op} : denxE C ρ (rd sto) id op = denx C ρ sto id op := by
  cases op <;> simp only [denxE, denx, rowsAE_eq, solidE_eq, sliceXE_eq, idxXE_eq, lookXE_eq, updXE_eq, entXE_eq, storeXE_eq, builtinXE_eq] <;> rfl
theorem builtinAE_le {id : Nat} {b : Builtin} {ts : List TypeId} {args : List AVal} {y : AVal × List (Nat × Blk)} (h : builtinAE P (rd sto) id b ts args = some y) : builtinA P sto id b ts args = some y := by
  unfold builtinAE at h
  unfold builtinA
  split at h
  · rw [lenSE_eq] at h; exact h
  · rw [capAE_eq] at h; exact h
  · exact h
  · exact h
  · cases h
theorem denE_le {C : Ctx} {ρ : Operand → AVal} {id : Nat} {own : Bool} {op : Op} {y : AVal × List (Nat × Blk)} (h : denE C ρ (rd sto) id own op = some y) : den C ρ sto id own op = some y := by
  cases op <;> simp only [denE, solidE_eq, buildAE_eq, rdCellsE_eq, wrCellsE_eq, markAE_eq, convAE_eq, sliceAE_eq, ptrAddE_eq, idxAE_eq, binQ_eq] at h <;> simp only [den] <;> first
    | exact h
    | cases h
    | skip
  case call c =>
    cases hc : c.callee with
    | builtin b => rw [hc] at h; exact builtinAE_le h
    | _ => rw [hc] at h; cases h
end
end Go.Proofs.YtepnbdacekkapaaGreatDoor.Ai
