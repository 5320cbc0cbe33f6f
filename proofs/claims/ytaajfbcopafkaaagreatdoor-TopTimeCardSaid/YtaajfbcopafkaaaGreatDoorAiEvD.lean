/- The operations over a reading function in place of the list of blocks; printed by evgen.py. Own work of this seat. -/
import Derived.Test.YtaajfbcopafkaaaGreatDoorAiLi
namespace Go.Proofs.YtaajfbcopafkaaaGreatDoor.Ai
open Go
set_option linter.unusedVariables false
set_option linter.unusedSimpArgs false

/-! The program's types, read off a table. -/
structure FP where
  P : Program
  I : TypeId → Option TypeInfo
def FP.info? (F : FP) (t : TypeId) : Option TypeInfo := F.I t
def FP.underlying (p : FP) (t : TypeId) : Option TypeDesc :=
  match p.info? t with
  | some { desc := .named _ u, .. } => (p.info? u).map (·.desc)
  | some i => some i.desc
  | none => none
def FP.cellsOf (p : FP) (t : TypeId) : Nat := ((p.info? t).map (·.size)).getD 0
def FP.bytesOf (p : FP) (t : TypeId) : Nat := ((p.info? t).map (·.bytes)).getD 0
def FP.stoodInHeld (F : FP) (t : TypeId) : Bool := cond F.P.cutTypes.toList.isEmpty false (F.P.stoodInHeld t)
abbrev fo (P : Program) : FP := ⟨P, P.info?⟩
/-- What the evaluator looks at of a context. -/
structure CB where
  P : Program
  glob : Nat → AVal
  I : TypeId → Option TypeInfo
  J : FuncId → Option Func
  XE : FuncId → List AVal → (Nat → Option Blk) → Option AVal := fun _ _ _ => none
theorem FP.stoodInHeld_eq (P : Program) (t : TypeId) : (fo P).stoodInHeld t = P.stoodInHeld t := by
  unfold FP.stoodInHeld
  cases h : (fo P).P.cutTypes.toList.isEmpty with
  | false => rfl
  | true =>
    have h : P.cutTypes.toList = [] := by simpa using h
    simp only [cond_true, Program.stoodInHeld, Program.stoodInAs, h, List.filter_nil, List.map_nil, ite_self, List.any_nil]
def cb (C : Ctx) : CB := ⟨C.P, C.glob, C.I, C.J, C.XE⟩
def fpB (K : CB) : FP := ⟨K.P, K.I⟩
theorem fpB_eq (C : Ctx) : fpB (cb C) = fo C.P := by unfold fpB cb fo; simp only; rw [C.hI]

def szOfF (P : FP) (t : TypeId) : Nat := P.cellsOf t

def byOfF (P : FP) (t : TypeId) : Nat := P.bytesOf t

def layF (P : FP) (t : TypeId) : Option (Bool × Nat) := match P.info? t, P.underlying t with | some i, some d => some (aggD d, i.size) | _, _ => none

def structTF (P : FP) (t : TypeId) : Option (List (Nat × Nat)) :=
  match P.underlying t with
  | some (.struct fs) => fs.toList.mapM fun f => (P.info? f.type).map fun i => (f.offset, i.size)
  | _ => none

def zeroTF (P : FP) (t : TypeId) : Option (List AVal) := ((P.info? t).bind (·.zero)).map fun z => (ofVal z).cells

def elemTF (P : FP) (t : TypeId) : Option TypeId := match P.underlying t with | some (.slice e) => some e | _ => none

def arrTF (P : FP) (t : TypeId) : Option (Nat × TypeId) := match P.underlying t with | some (.array n e) => some (n, e) | _ => none

def fieldTF (P : FP) (t : TypeId) (f : Nat) : Option (Nat × TypeId) :=
  match P.underlying t with
  | some (.struct fs) => (fs[f]?).map fun x => (x.offset, x.type)
  | _ => none

def strTF (P : FP) (t : TypeId) : Bool := match P.underlying t with | some .string => true | _ => false

def intTF (P : FP) (t : TypeId) : Option IntKind := match P.underlying t with | some (.int k) => some k | _ => none

def boolTF (P : FP) (t : TypeId) : Bool := match P.underlying t with | some .bool => true | _ => false

def funcTF (P : FP) (t : TypeId) : Bool := match P.underlying t with | some (.func _ _ _) => true | _ => false

def ifaceTF (P : FP) (t : TypeId) : Bool := match P.underlying t with | some (.interface _) => true | _ => false

def ptrTF (P : FP) (t : TypeId) : Bool := match P.underlying t with | some (.pointer e) => Nat.blt 0 (szOfF P e) | _ => false

def okTF (P : FP) (t : TypeId) : Bool := (P.underlying t).isSome

def zokTF (P : FP) (t : TypeId) : Bool := match zeroTF P t with | some z => z.length == szOfF P t | none => false

def partAF (P : FP) (t : TypeId) (f : Nat) : Option (Nat × Nat) :=
  match structTF P t with
  | some pl => pl[f]?
  | none => (arrTF P t).bind fun p => (layF P p.2).map fun q => (f * q.2, q.2)

def indexAF (P : FP) (t : TypeId) (x : AVal) (i : Int) : Option AVal :=
  if 0 ≤ i then
    match x with
    | .str s => if strTF P t = true then (match s[i.toNat]? with | some b => some (.int .u8 b.toNat) | none => none) else none
    | .agg cs => (match arrTF P t with
      | some (n, e) => if i.toNat < n then (layF P e).bind fun q => (takeN (if q.1 = true then q.2 else 1) (cs.drop (i.toNat * q.2))).bind (mkV q.1) else none
      | none => none)
    | _ => none
  else none

def lenAF (P : FP) (t : TypeId) (x : AVal) : Option AVal :=
  match x with
  | .str s => if strTF P t = true then some (.int .i64 s.length) else none
  | .slc _ rows _ => if (elemTF P t).isSome = true then some (.int .i64 rows.length) else none
  | .agg _ => (arrTF P t).map fun p => .int .i64 p.1
  | _ => none

def makeXF (P : FP) (id : Nat) (t : TypeId) (l c : AVal) : Option (AVal × List (Nat × Blk)) :=
  match elemTF P t, l, c with
  | some e, .int _ l, .int _ c =>
    if 0 ≤ l then (if l ≤ c then (if c ≤ 9223372036854775807 then (if 0 < szOfF P e then (if c.toNat * byOfF P e ≤ maxRoom then
      (zeroTF P e).bind fun z => if z.length = szOfF P e then (if z.all (fun x => cellish x && noref x) = true then
        some (.sub id l.toNat 0 l.toNat (some c.toNat), [(id, .arr e (szOfF P e) (List.replicate l.toNat z))]) else none) else none
      else none) else none) else none) else none) else none
  | _, _, _ => none

def zeroVF (P : FP) (e : TypeId) : Option AVal := ((P.info? e).bind (·.zero)).map ofVal

def mapTF (P : FP) (t : TypeId) : Option (TypeId × TypeId) := match P.underlying t with | some (.map k e) => some (k, e) | _ => none

section
variable {P : Program}
theorem szOfF_eq : szOfF (fo P) = szOf P := rfl
theorem byOfF_eq : byOfF (fo P) = byOf P := rfl
theorem layF_eq : layF (fo P) = lay P := rfl
theorem structTF_eq : structTF (fo P) = structT P := rfl
theorem zeroTF_eq : zeroTF (fo P) = zeroT P := rfl
theorem elemTF_eq : elemTF (fo P) = elemT P := rfl
theorem arrTF_eq : arrTF (fo P) = arrT P := rfl
theorem fieldTF_eq : fieldTF (fo P) = fieldT P := rfl
theorem strTF_eq : strTF (fo P) = strT P := rfl
theorem intTF_eq : intTF (fo P) = intT P := rfl
theorem boolTF_eq : boolTF (fo P) = boolT P := rfl
theorem funcTF_eq : funcTF (fo P) = funcT P := rfl
theorem ifaceTF_eq : ifaceTF (fo P) = ifaceT P := rfl
theorem ptrTF_eq : ptrTF (fo P) = ptrT P := rfl
theorem okTF_eq : okTF (fo P) = okT P := rfl
theorem zokTF_eq : zokTF (fo P) = zokT P := rfl
theorem partAF_eq : partAF (fo P) = partA P := rfl
theorem indexAF_eq : indexAF (fo P) = indexA P := rfl
theorem lenAF_eq : lenAF (fo P) = lenA P := rfl
theorem makeXF_eq : makeXF (fo P) = makeX P := rfl
theorem zeroVF_eq : zeroVF (fo P) = zeroV P := rfl
theorem mapTF_eq : mapTF (fo P) = mapT P := rfl
end

/-! What the kernel cannot run is written anew. -/
def goQ (P : FP) (lv : TypeId → Option (List LK)) (size : Nat) : List Field → Nat → Option (List LK)
  | [], off => if off = size then some [] else none
  | f :: fs, off => if f.name = "_" then none else if f.offset = off then (lv f.type).bind fun l => (goQ P lv size fs (off + szOfF P f.type)).map (l ++ ·) else none
def leavesQ (P : FP) (n : Nat) : TypeId → Option (List LK) :=
  Nat.rec (motive := fun _ => TypeId → Option (List LK)) (fun _ => none) (fun _ ih t =>
    match P.underlying t with
    | some .bool => if szOfF P t = 1 then some [.b] else none
    | some (.int _) => if szOfF P t = 1 then some [.i] else none
    | some .string => if szOfF P t = 1 then some [.s] else none
    | some (.struct fs) => if P.stoodInHeld t = true then none else goQ P ih (szOfF P t) fs.toList 0
    | some (.array n e) => if szOfF P t = n * szOfF P e then (ih e).map fun l => (List.replicate n l).flatten else none
    | _ => none) n
def eqQ (P : FP) (t : TypeId) (x y : AVal) : Option Bool :=
  match x, y with
  | .bool a, .bool b => if boolTF P t = true then some (decide (a = b)) else none
  | .agg cs, .agg ds => (layF P t).bind fun q => if q.1 = true then (leavesQ P 8 t).bind fun ks => eqL ks cs ds else none
  | .func _ _ _, .nilfunc => if funcTF P t = true then some false else none
  | .nilfunc, .nilfunc => if funcTF P t = true then some true else none
  | _, _ => none
def binQ (P : FP) (op : BinOp) (t : TypeId) (x y : AVal) : Option AVal :=
  match x, y with
  | .int k a, .int k' b =>
    (match op with
    | .shl => shiftA .shl k a b
    | .shr => shiftA .shr k a b
    | op => if k = k' then intA op k a b else none)
  | .str a, .str b => strA op a b
  | x, y =>
    (match op with
    | .eql => (eqQ P t x y).map .bool
    | .neq => (eqQ P t x y).map fun r => .bool (!r)
    | _ => none)
def findQ (P : FP) (kt : TypeId) (k : List AVal) : List (AVal × AVal × Nat) → Nat → Option (Option (Nat × AVal × Nat))
  | [], _ => some none
  | (.agg k', v, n) :: rest, i =>
    (match (leavesQ P 8 kt).bind fun ks => eqL ks k k' with
    | some true => some (some (i, v, n))
    | some false => findQ P kt k rest (i + 1)
    | none => none)
  | _ :: _, _ => none
def keyQ (P : FP) (kt : TypeId) (k : List AVal) : Bool :=
  match layF P kt with
  | some q => q.1 && (match leavesQ P 8 kt with | some ks => ks.length == k.length | none => false)
  | none => false
def findKQ (P : FP) (kt : TypeId) (k : AVal) (es : List (AVal × AVal × Nat)) : Option (Option (Nat × AVal × Nat)) :=
  match k with
  | .agg ks => findQ P kt ks es 0
  | k => findS k es 0
def keyKQ (P : FP) (kt : TypeId) (k : AVal) : Bool :=
  match k with
  | .agg ks => keyQ P kt ks
  | .int q _ => (match P.underlying kt with | some (.int q') => decide (q' = q) | _ => false)
  | .str _ => strTF P kt
  | _ => false

section
variable {P : Program}
theorem goQ_eq {d size : Nat} {lv : TypeId → Option (List LK)} (h : ∀ t, lv t = leavesT P d t) : ∀ (fs : List Field) (off : Nat), goQ (fo P) lv size fs off = leavesT.go P d size fs off := by
  intro fs
  induction fs with
  | nil => intro off; simp only [goQ, leavesT.go]
  | cons f fs ih => intro off; simp only [goQ, leavesT.go, h, ih, szOfF_eq]
theorem leavesQ_eq : ∀ (d : Nat) (t : TypeId), leavesQ (fo P) d t = leavesT P d t := by
  intro d
  induction d with
  | zero => intro t; simp only [leavesT]; rfl
  | succ d ih =>
    intro t
    have : leavesQ (fo P) (d + 1) t = (match P.underlying t with
      | some .bool => if szOf P t = 1 then some [.b] else none
      | some (.int _) => if szOf P t = 1 then some [.i] else none
      | some .string => if szOf P t = 1 then some [.s] else none
      | some (.struct fs) => if (fo P).stoodInHeld t = true then none else goQ (fo P) (leavesQ (fo P) d) (szOf P t) fs.toList 0
      | some (.array n e) => if szOf P t = n * szOf P e then (leavesQ (fo P) d e).map fun l => (List.replicate n l).flatten else none
      | _ => none) := rfl
    rw [this, leavesT, FP.stoodInHeld_eq]
    cases P.underlying t with
    | none => rfl
    | some d => cases d <;> first | rfl | simp only [goQ_eq ih, ih]
theorem eqQ_eq : eqQ (fo P) = eqA P := by funext t x y; unfold eqQ eqA; simp only [leavesQ_eq] <;> rfl
theorem binQ_eq : binQ (fo P) = binA P := by funext a b x y; unfold binQ binA; rw [eqQ_eq] <;> rfl
theorem findQ_eq {kt : TypeId} {k : List AVal} : ∀ (l : List (AVal × AVal × Nat)) (i : Nat), findQ (fo P) kt k l i = findX P kt k l i := by
  intro l
  induction l with
  | nil => intro i; rfl
  | cons p l ih =>
    intro i
    obtain ⟨a, v, n⟩ := p
    cases a <;> simp only [findQ, findX, leavesQ_eq, ih] <;> rfl
theorem keyQ_eq : keyQ (fo P) = keyOK P := by funext a b; unfold keyQ keyOK; rw [leavesQ_eq, layF_eq] <;> rfl
theorem findKQ_eq : findKQ (fo P) = findK P := by funext a b c; cases b <;> simp only [findKQ, findK, findQ_eq]
theorem keyKQ_eq : keyKQ (fo P) = keyK P := by funext a b; cases b <;> simp only [keyKQ, keyK, keyQ_eq, strTF_eq] <;> rfl
end

def curOfE (gt : Nat → Option Blk) (b : Nat) : Option Nat :=
  match gt b with
  | some (.buf _ _ rows _) => some rows.length
  | some (.nbuf _ _) => some 0
  | some (.arr _ _ rows) => some rows.length
  | _ => none

def slcXE (gt : Nat → Option Blk) : AVal → Bool
  | .sub b n _ _ _ => curOfE gt b == some n
  | .csl _ _ _ _ _ => true
  | .slc _ (_ :: _) _ => true
  | _ => false

def nilAE (P : FP) (gt : Nat → Option Blk) (op : BinOp) (t : TypeId) (y : Operand) (a b : AVal) : Option AVal :=
  match a, b with
  | .nilif, .nilif => if (nilO y && ifaceTF P t) = true then eqlB op true else none
  | .iface _ _, .nilif => if ifaceTF P t = true then eqlB op false else none
  | .nilptr, .nilptr => if ptrTF P t = true then eqlB op true else none
  | .ptr _ _, .nilptr => if ptrTF P t = true then eqlB op false else none
  | .ptr i o, .ptr i' o' => if (ptrTF P t && (Nat.beq i i' && Nat.beq o o')) = true then eqlB op true else none
  | a, _ => if (nilS y && (slcXE gt a && (elemTF P t).isSome)) = true then eqlB op false else none

def solidE (gt : Nat → Option Blk) : AVal → Bool
  | .agg _ => false
  | .tup _ => false
  | .undef => false
  | .dead => false
  | .bsl b n => curOfE gt b == some n
  | .eptr b n _ _ => curOfE gt b == some n
  | .sub b n _ _ _ => curOfE gt b == some n
  | .yld _ _ _ _ => false
  | _ => true

def cellsOKE (gt : Nat → Option Blk) : AVal → Bool
  | .dead => false
  | .bsl b n => curOfE gt b == some n
  | .eptr b n _ _ => curOfE gt b == some n
  | .sub b n _ _ _ => curOfE gt b == some n
  | _ => true

def rdCellsE (gt : Nat → Option Blk) (p : AVal) (n : Nat) : Option (List AVal) :=
  match p with
  | .ptr b off => (match gt b with | some (.cells _ cs) => takeN n (cs.drop off) | _ => none)
  | .eptr b m i j => (match gt b with
    | some (.buf _ _ rows _) => if rows.length = m then (match rows[i]? with | some r => takeN n (r.drop j) | none => none) else none
    | some (.arr _ _ rows) => if rows.length = m then (match rows[i]? with | some r => takeN n (r.drop j) | none => none) else none
    | _ => none)
  | .rptr cs => takeN n cs
  | _ => none

def wrCellsE (gt : Nat → Option Blk) (p : AVal) (vs : List AVal) : Option (Nat × Blk) :=
  match p with
  | .ptr b off => (match gt b with | some (.cells t cs) => if off + vs.length ≤ cs.length then some (b, .cells t (setAt cs off vs)) else none | _ => none)
  | .eptr b m i j => (match gt b with
    | some (.buf t sz rows cap) => if rows.length = m then (match rows[i]? with
      | some r => if j + vs.length ≤ r.length then (if vs.all (fun x => cellish x && noref x) = true then some (b, .buf t sz (rows.set i (setAt r j vs)) cap) else none) else none
      | none => none) else none
    | some (.arr t sz rows) => if rows.length = m then (match rows[i]? with
      | some r => if j + vs.length ≤ r.length then some (b, .arr t sz (rows.set i (setAt r j vs))) else none
      | none => none) else none
    | _ => none)
  | _ => none

def ptrAddE (gt : Nat → Option Blk) (p : AVal) (off : Nat) : Option AVal :=
  match p with
  | .ptr b o => some (.ptr b (o + off))
  | .eptr b n i j => if curOfE gt b = some n then some (.eptr b n i (j + off)) else none
  | .rptr cs => some (.rptr (cs.drop off))
  | _ => none

def rowsOfE (gt : Nat → Option Blk) : AVal → Option (Nat × List (List AVal))
  | .slc sz rows _ => some (sz, rows)
  | .bsl b n => (match gt b with
    | some (.buf _ sz rows _) => if rows.length = n then some (sz, rows) else none
    | some (.nbuf _ sz) => if n = 0 then some (sz, []) else none
    | _ => none)
  | _ => none

def convAE (P : FP) (gt : Nat → Option Blk) (own : Bool) (src dst : TypeId) (x : AVal) : Option AVal :=
  if okTF P src = true then
    (match x with
    | .int _ n => (match intTF P dst with
      | some k => some (.int k (k.wrap n))
      | none => if strTF P dst = true then some (.str (encRune n)) else none)
    | .str s => if strTF P dst = true then some (.str s) else
      (match elemTF P dst with
      | some e => if own = true then none else if s.length ≤ 9223372036854775807 then (match intTF P e with
        | some .u8 => some (.slc 1 (s.map bytesRow) none)
        | some .i32 => some (.slc 1 ((runesL s s.length 0).map runeRow) none)
        | _ => none) else none
      | none => none)
    | x => if strTF P dst = true then
        (match elemTF P src, rowsOfE gt x with
        | some e, some (sz, rows) => if sz = 1 ∨ rows.length = 0 then (match intTF P e with
          | some .u8 => (bytesOfRows rows).map fun s => .str s
          | some .i32 => (runesOfRows rows).map fun l => .str (l.map encRune).flatten
          | _ => none) else none
        | _, _ => none)
      else none)
  else none

def markAE (P : FP) (gt : Nat → Option Blk) (src dst : TypeId) (x : AVal) : Option (AVal × List (Nat × Blk)) :=
  match x with
  | .bsl b n => (match gt b with
    | some (.buf _ sz rows cap) => if src = dst ∧ (elemTF P src).bind (intTF P) = some .u8 ∧ rows.length = n then some (.slc sz rows cap, [(b, .gone)]) else none
    | _ => none)
  | _ => none

def sliceAE (P : FP) (gt : Nat → Option Blk) (t : TypeId) (x : AVal) (lo hi mx : Option AVal) : Option (AVal × List (Nat × Blk)) :=
  match x with
  | .str s => if strTF P t = true then
      (match mx with
      | none => (match optNat 0 lo, optNat s.length hi with
        | some l, some h => if l ≤ h then (if h ≤ s.length then some (.str ((s.take h).drop l), []) else none) else none
        | _, _ => none)
      | some _ => none)
    else none
  | .slc sz rows cap => (elemTF P t).bind fun e => if layF P e = none then none else if sz = szOfF P e ∨ rows.length = 0 then (cutRows sz rows cap lo hi mx).map (·, []) else none
  | .bsl b n => (match gt b with
    | some (.buf _ sz rows cap) => if rows.length = n then ((elemTF P t).bind fun e => if sz = szOfF P e then (cutRows sz rows cap lo hi mx).map (·, [(b, .gone)]) else none) else none
    | some (.nbuf _ sz) => if n = 0 then ((elemTF P t).bind fun e => if sz = szOfF P e then (if 0 < sz then (cutRows sz [] (some 0) lo hi mx).map (·, [(b, .gone)]) else none) else none) else none
    | _ => none)
  | .rptr cs => (match arrTF P t with
    | some (n, e) => if cs.length = n * szOfF P e then (if 0 < szOfF P e ∧ n ≤ 16777216 then (cutRows (szOfF P e) (chunks (szOfF P e) n cs) (some n) lo hi mx).map (·, []) else none) else none
    | none => none)
  | .ptr b off => (match gt b with
    | some (.cells _ cs) => if cs.all (fun x => cellish x && noref x) = true then (match arrTF P t with
      | some (n, e) => if (cs.drop off).length = n * szOfF P e then (if 0 < szOfF P e ∧ n ≤ 16777216 then (cutRows (szOfF P e) (chunks (szOfF P e) n (cs.drop off)) (some n) lo hi mx).map (·, [(b, .gone)]) else none) else none
      | none => none) else none
    | _ => none)
  | _ => none

def newRowsE (P : FP) (gt : Nat → Option Blk) (tx : TypeId) (x : AVal) : Option (Nat × List (List AVal)) :=
  match x with
  | .str s => if strTF P tx = true then some (1, s.map bytesRow) else none
  | x => if (elemTF P tx).isSome = true then rowsOfE gt x else none

def lenSE (P : FP) (gt : Nat → Option Blk) (t : TypeId) (x : AVal) : Option AVal :=
  match x with
  | .bsl b n => if (elemTF P t).isSome = true then (if curOfE gt b = some n then some (.int .i64 n) else none) else none
  | x => lenAF P t x

def capAE (P : FP) (gt : Nat → Option Blk) (t : TypeId) (x : AVal) : Option AVal :=
  match x with
  | .slc _ _ (some c) => if (elemTF P t).isSome = true then some (.int .i64 c) else none
  | .bsl b n => (match gt b with
    | some (.buf _ _ rows (some c)) => if rows.length = n then (if (elemTF P t).isSome = true then some (.int .i64 c) else none) else none
    | some (.nbuf _ _) => if n = 0 then (if (elemTF P t).isSome = true then some (.int .i64 0) else none) else none
    | _ => none)
  | _ => none

def goBE (P : FP) (gt : Nat → Option Blk) (t : TypeId) : List AVal → List (Nat × AVal) → Option (List AVal)
  | cs, [] => some cs
  | cs, (f, v) :: rest =>
    match partAF P t f with
    | some (off, n) => if cellsOKE gt v = true then (if v.cells.length = n then (if off + v.cells.length ≤ cs.length then goBE P gt t (setAt cs off v.cells) rest else none) else none) else none
    | none => none

def buildAE (P : FP) (gt : Nat → Option Blk) (t : TypeId) (parts : List (Nat × AVal)) : Option (List AVal) :=
  if (structTF P t).isSome || ((arrTF P t).bind fun p => layF P p.2).isSome then (zeroTF P t).bind fun z => goBE P gt t z parts else none

def goRE (P : FP) (gt : Nat → Option Blk) (e : TypeId) : List (List AVal) → List (Nat × AVal) → Option (List (List AVal))
  | rows, [] => some rows
  | rows, (i, v) :: rest => if cellsOKE gt v = true then (if v.cells.length = szOfF P e then (if i < rows.length then goRE P gt e (rows.set i v.cells) rest else none) else none) else none

def rowsAE (P : FP) (gt : Nat → Option Blk) (e : TypeId) (len : Nat) (parts : List (Nat × AVal)) : Option (List (List AVal)) :=
  (zeroTF P e).bind fun z => if z.length = szOfF P e then goRE P gt e (List.replicate len z) parts else none

def idxAE (P : FP) (gt : Nat → Option Blk) (t : TypeId) (x : AVal) (i : Int) : Option AVal :=
  if 0 ≤ i then
    match x with
    | .slc sz rows _ => (elemTF P t).bind fun e => if sz = szOfF P e then (if 0 < sz then (match rows[i.toNat]? with | some r => some (.rptr r) | none => none) else none) else none
    | .bsl b n => (elemTF P t).bind fun e => (match gt b with
      | some (.buf _ sz rows _) => if rows.length = n then (if sz = szOfF P e then (if i.toNat < n then some (.eptr b n i.toNat 0) else none) else none) else none
      | _ => none)
    | x => (match arrTF P t with
      | some (n, e) => if i.toNat < n then (layF P e).bind fun q => ptrAddE gt x (i.toNat * q.2) else none
      | none => none)
  else none

def newRowsXE (P : FP) (gt : Nat → Option Blk) (tx : TypeId) (x : AVal) : Option (Nat × List (List AVal)) :=
  match x with
  | .sub b n lo len _ => if (elemTF P tx).isSome = true then (match gt b with
    | some (.arr _ sz rows) => if rows.length = n then some (sz, (rows.drop lo).take len) else none
    | _ => none) else none
  | .csl b off sz len _ => if (elemTF P tx).isSome = true then (if sz = 1 then (match gt b with
    | some (.cells _ cs) => if off + len ≤ cs.length then (if ((cs.drop off).take len).all (solidE gt) = true then some (1, ((cs.drop off).take len).map fun c => [c]) else none) else none
    | _ => none) else none) else none
  | x => newRowsE P gt tx x

def convXE (P : FP) (gt : Nat → Option Blk) (src dst : TypeId) (x : AVal) : Option AVal :=
  if arrX x = true then (if strTF P dst = true then (match elemTF P src with
    | some e => (match intTF P e with
      | some .u8 => (match newRowsXE P gt src x with
        | some (sx, rows) => if sx = 1 then (bytesOfRows rows).map .str else none
        | none => none)
      | _ => none)
    | none => none) else none) else none

def appendBE (P : FP) (gt : Nat → Option Blk) (id : Nat) (e : TypeId) (new : List (List AVal)) (s : AVal) : Option (AVal × List (Nat × Blk)) :=
  match s with
  | .slc sz [] (some 0) => if new = [] then some (.slc sz [] (some 0), []) else
    (if new.length * byOfF P e ≤ maxRoom then (if new.length ≤ 9223372036854775807 then some (.sub id new.length 0 new.length none, [(id, .arr e (szOfF P e) new)]) else none) else none)
  | .sub b n lo len cap => (match gt b with
    | some (.arr te sz rows) =>
      if rows.length = n then (if te = e then (if sz = szOfF P e then (if (len + new.length) * byOfF P e ≤ maxRoom then (if len + new.length ≤ 9223372036854775807 then
        appendC id e new b n lo len cap te sz rows
      else none) else none) else none) else none) else none
    | _ => none)
  | _ => none

def appendXE (P : FP) (gt : Nat → Option Blk) (id : Nat) (t tx : TypeId) (s x : AVal) : Option (AVal × List (Nat × Blk)) :=
  match elemTF P t, newRowsXE P gt tx x with
  | some e, some (sx, new) => if 0 < szOfF P e then (if zokTF P e = true then (if sx = szOfF P e ∨ new.length = 0 then appendBE P gt id e new s else none) else none) else none
  | _, _ => none

def sliceXE (P : FP) (gt : Nat → Option Blk) (t : TypeId) (x : AVal) (lo hi mx : Option AVal) : Option (AVal × List (Nat × Blk)) :=
  match x with
  | .sub b n l0 len cap => (elemTF P t).bind fun e => (match gt b with
    | some (.arr _ sz rows) => if rows.length = n then (if sz = szOfF P e then (subCut b n l0 len cap lo hi mx).map (·, []) else none) else none
    | _ => none)
  | .ptr b off => (match arrTF P t with
    | some (n, e) => if 0 < szOfF P e then (match optNat 0 lo, optNat n hi, mx with
      | some l, some h, none => if l ≤ h then (if h ≤ n then (if l < n then some (.csl b (off + l * szOfF P e) (szOfF P e) (h - l) (n - l), []) else none) else none) else none
      | _, _, _ => none) else none
    | none => none)
  | .csl b off sz len cap => (elemTF P t).bind fun e => if sz = szOfF P e then (if 0 < sz then (match optNat 0 lo, optNat len hi with
    | some l, some h => if l ≤ h then (if h ≤ len then (match mx with
      | none => if l < cap then some (.csl b (off + l * sz) sz (h - l) (cap - l), []) else some (.slc sz [] (some 0), [])
      | some m => (match hi, asNat m with
        | some _, some m => if h ≤ m then (if m ≤ len then (if l < m then some (.csl b (off + l * sz) sz (h - l) (m - l), []) else some (.slc sz [] (some 0), [])) else none) else none
        | _, _ => none)) else none) else none
    | _, _ => none) else none) else none
  | _ => none

def idxXE (P : FP) (gt : Nat → Option Blk) (t : TypeId) (x : AVal) (i : Int) : Option AVal :=
  if 0 ≤ i then
    match x with
    | .sub b n lo len _ => (elemTF P t).bind fun e => (match gt b with
      | some (.arr _ sz rows) => if rows.length = n then (if sz = szOfF P e then (if i.toNat < len then some (.eptr b n (lo + i.toNat) 0) else none) else none) else none
      | _ => none)
    | .csl b off sz len _ => (elemTF P t).bind fun e => if sz = szOfF P e then (if 0 < sz then (if i.toNat < len then some (.ptr b (off + i.toNat * sz)) else none) else none) else none
    | _ => none
  else none

def lenXE (P : FP) (gt : Nat → Option Blk) (t : TypeId) (x : AVal) : Option AVal :=
  match x with
  | .sub b n _ len _ => if (elemTF P t).isSome = true then (if curOfE gt b = some n then some (.int .i64 len) else none) else none
  | .csl _ _ _ len _ => if (elemTF P t).isSome = true then some (.int .i64 len) else none
  | .mapr b => if (mapTF P t).isSome = true then (match gt b with | some (.map es _) => some (.int .i64 es.length) | _ => none) else none
  | .nilmap => if (mapTF P t).isSome = true then some (.int .i64 0) else none
  | _ => none

def capXE (P : FP) (gt : Nat → Option Blk) (t : TypeId) (x : AVal) : Option AVal :=
  match x with
  | .sub b n _ _ (some c) => if (elemTF P t).isSome = true then (if curOfE gt b = some n then some (.int .i64 c) else none) else none
  | .csl _ _ _ _ c => if (elemTF P t).isSome = true then some (.int .i64 c) else none
  | _ => none

def copyXE (P : FP) (gt : Nat → Option Blk) (t tx : TypeId) (d x : AVal) : Option (AVal × List (Nat × Blk)) :=
  match elemTF P t, newRowsXE P gt tx x with
  | some e, some (sx, new) =>
    (match d with
    | .sub b n lo len _ => (match gt b with
      | some (.arr te sz rows) => if rows.length = n then (if te = e then (if sz = szOfF P e then (if sx = szOfF P e ∨ new.length = 0 then (if new.length ≤ len then
          some (.int .i64 new.length, [(b, .arr te sz (rows.take lo ++ new ++ rows.drop (lo + new.length)))]) else none) else none) else none) else none) else none
      | _ => none)
    | .csl b off sz len _ => (match gt b with
      | some (.cells t0 cs) => if sz = szOfF P e then (if 0 < sz then (if sx = szOfF P e ∨ new.length = 0 then (if new.length ≤ len then (if off + new.length * sz ≤ cs.length then
          (if new.flatten.length = new.length * sz then some (.int .i64 new.length, [(b, .cells t0 (setAt cs off new.flatten))]) else none) else none) else none) else none) else none) else none
      | _ => none)
    | _ => none)
  | _, _ => none

def lookME (P : FP) (gt : Nat → Option Blk) (kt : TypeId) (k : AVal) : AVal → Option (Option (Nat × AVal × Nat))
  | .mapr b => (match gt b with | some (.map es _) => findKQ P kt k es | _ => none)
  | .nilmap => some none
  | _ => none

def lookXE (P : FP) (gt : Nat → Option Blk) (t : TypeId) (m k : AVal) (ok : Bool) : Option AVal :=
  match mapTF P t with
  | some (kt, e) =>
    if keyKQ P kt k = true then
      (lookME P gt kt k m).bind fun r =>
        (match r with
        | some (_, v, _) => some (if ok = true then .tup [v, .bool true] else v)
        | none => (zeroVF P e).map fun z => if ok = true then .tup [z, .bool false] else z)
    else none
  | _ => none

def updXE (P : FP) (gt : Nat → Option Blk) (t : TypeId) (m k v : AVal) : Option (List (Nat × Blk)) :=
  match mapTF P t, m with
  | some (kt, _), .mapr b =>
    if keyKQ P kt k = true then
      (match gt b with
      | some (.map es clock) => (findKQ P kt k es).map fun r =>
        (match r with
        | some (i, _, n) => [(b, .map (es.set i (k, v, n)) clock)]
        | none => [(b, .map (es ++ [(k, v, clock)]) (clock + 1))])
      | _ => none)
    else none
  | _, _ => none

def entXE (P : FP) (gt : Nat → Option Blk) (t : TypeId) (m k : AVal) : Option (AVal × List (Nat × Blk)) :=
  match mapTF P t, m with
  | some (kt, e), .mapr b =>
    if keyKQ P kt k = true then
      (match gt b with
      | some (.map es clock) => (findKQ P kt k es).bind fun r =>
        (match r with
        | some (i, v, n) => some (.tup [v, .int .i64 n], [(b, .map (es.set i (k, v, n)) clock)])
        | none => (zeroVF P e).map fun z => (.tup [z, .int .i64 clock], [(b, .map (es ++ [(k, z, clock)]) (clock + 1))]))
      | _ => none)
    else none
  | _, _ => none

def storeXE (gt : Nat → Option Blk) (m s v : AVal) : Option (List (Nat × Blk)) :=
  match m, s with
  | .mapr b, .int _ n =>
    (match gt b with
    | some (.map es clock) => (es.findIdx? fun p => decide ((p.2.2 : Int) = n)).bind fun i => (es[i]?).map fun p => [(b, .map (es.set i (p.1, v, p.2.2)) clock)]
    | _ => none)
  | _, _ => none

def delXE (P : FP) (gt : Nat → Option Blk) (t : TypeId) (m k : AVal) : Option (List (Nat × Blk)) :=
  match mapTF P t, m with
  | some (kt, _), .mapr b =>
    if keyKQ P kt k = true then
      (match gt b with
      | some (.map es clock) => (findKQ P kt k es).map fun r =>
        (match r with
        | some (i, _, _) => [(b, .map (es.eraseIdx i) clock)]
        | none => [(b, .map es clock)])
      | _ => none)
    else none
  | _, _ => none

def clearXE (P : FP) (gt : Nat → Option Blk) (t : TypeId) (d : AVal) : Option (List (Nat × Blk)) :=
  match d with
  | .sub b n lo len _ => (match gt b with
    | some (.arr te sz rows) => (match elemTF P t with
      | some e => if rows.length = n then (if te = e then (if sz = szOfF P e then (if 0 < len then
          (zeroTF P e).bind fun z => if z.length = sz then (if z.all (fun x => cellish x && noref x) = true then
            some [(b, .arr te sz (rows.take lo ++ List.replicate len z ++ rows.drop (lo + len)))] else none) else none
        else none) else none) else none) else none
      | none => none)
    | _ => none)
  | _ => none

def builtinXE (P : FP) (gt : Nat → Option Blk) (id : Nat) (b : Builtin) (ts : List TypeId) (args : List AVal) : Option (AVal × List (Nat × Blk)) :=
  match b, ts, args with
  | .len, [t], [x] => (lenXE P gt t x).map (·, [])
  | .cap, [t], [x] => (capXE P gt t x).map (·, [])
  | .append, [t, tx], [s, x] => appendXE P gt id t tx s x
  | .copy, [t, tx], [d, x] => copyXE P gt t tx d x
  | .delete, [t, _], [m, k] => (delXE P gt t m k).map fun ws => (.tup [], ws)
  | .clear, [t], [x] => (clearXE P gt t x).map fun ws => (.tup [], ws)
  | _, _, _ => none

def denxE (F : FP) (ρ : Operand → AVal) (gt : Nat → Option Blk) (id : Nat) (op : Op) : Option (AVal × List (Nat × Blk)) :=
  match op with
  | .buildSlice t len parts =>
    (match elemTF F t with
    | some e => (rowsAE F gt e len (parts.toList.map fun p => (p.1, ρ p.2))).bind fun rows =>
      if 0 < szOfF F e then (if len * szOfF F e ≤ 16777216 then (if rows.all (fun r => r.all (solidE gt)) = true then some (.sub id len 0 len (some len), [(id, .arr e (szOfF F e) rows)]) else none) else none) else none
    | none => none)
  | .makeSlice t l c => makeXF F id t (ρ l) (ρ c)
  | .convert src dst x => (convXE F gt src dst (ρ x)).map (·, [])
  | .slice t x lo hi mx => sliceXE F gt t (ρ x) (lo.map ρ) (hi.map ρ) (mx.map ρ)
  | .indexAddr t x i => (match ρ i with | .int _ n => (idxXE F gt t (ρ x) n).map (·, []) | _ => none)
  | .makeMap t r => (match r with
    | none => if (mapTF F t).isSome = true then some (.mapr id, [(id, .map [] 0)]) else none
    | some h => (match ρ h with | .int _ _ => if (mapTF F t).isSome = true then some (.mapr id, [(id, .map [] 0)]) else none | _ => none))
  | .lookup t m k ok => (lookXE F gt t (ρ m) (ρ k) ok).map (·, [])
  | .mapUpdate t m k v => (updXE F gt t (ρ m) (ρ k) (ρ v)).map fun ws => (.undef, ws)
  | .mapEntry t m k => entXE F gt t (ρ m) (ρ k)
  | .entryStore _ m s v => (storeXE gt (ρ m) (ρ s) (ρ v)).map fun ws => (.undef, ws)
  | .insert t m k v => (updXE F gt t (ρ m) (ρ k) (ρ v)).map fun ws => (.undef, ws)
  | .call c => (match c.callee with
    | .builtin b => builtinXE F gt id b c.argTypes.toList (c.args.toList.map ρ)
    | _ => none)
  | _ => none

def builtinAE (P : FP) (gt : Nat → Option Blk) (id : Nat) (b : Builtin) (ts : List TypeId) (args : List AVal) : Option (AVal × List (Nat × Blk)) :=
  match b, ts, args with
  | .len, [t], [x] => (lenSE P gt t x).map (·, [])
  | .cap, [t], [x] => (capAE P gt t x).map (·, [])
  | .min, _, args => (minA args).map (·, [])
  | .max, _, args => (maxA args).map (·, [])
  | _, _, _ => none

def denE (F : FP) (ρ : Operand → AVal) (gt : Nat → Option Blk) (id : Nat) (own : Bool) (op : Op) : Option (AVal × List (Nat × Blk)) :=
  match op with
  | .move x => some (ρ x, [])
  | .assign x => some (ρ x, [])
  | .pick c a b => (match ρ c with | .bool t => some (if t = true then ρ a else ρ b, []) | _ => none)
  | .alloc t => (zeroTF F t).map fun cs => (.ptr id 0, [(id, .cells t cs)])
  | .box t x => if (ρ x).cells.all (solidE gt) = true then some (.ptr id 0, [(id, .cells t (ρ x).cells)]) else none
  | .build t parts => (buildAE F gt t (parts.toList.map fun p => (p.1, ρ p.2))).map fun cs => (.agg cs, [])
  | .load t a => (layF F t).bind fun q => (rdCellsE gt (ρ a) (if q.1 = true then q.2 else 1)).bind fun cs => (mkV q.1 cs).map (·, [])
  | .store t a x =>
    (layF F t).bind fun q => if (ρ x).cells.length = q.2 then
      (if (ρ x).cells.all (solidE gt) = true then (wrCellsE gt (ρ a) (ρ x).cells).map fun w => (.undef, [w]) else none)
    else none
  | .nilCheck x => (match ρ x with
    | .ptr b o => some (.ptr b o, [])
    | .rptr cs => some (.rptr cs, [])
    | .func f a b => some (.func f a b, [])
    | _ => none)
  | .binOp op t x y _ => ((nilAE F gt op t y (ρ x) (ρ y)).or (binQ F op t (ρ x) (ρ y))).map (·, [])
  | .unOp op _ x => (unA op (ρ x)).map (·, [])
  | .convert src dst x => (match markAE F gt src dst (ρ x) with
    | some r => some r
    | none => (convAE F gt own src dst (ρ x)).map (·, []))
  | .makeFunc fn first caps => (match fn with
    | .func f => some (.func f (first.toList.map ρ) (caps.toList.map ρ), [])
    | _ => none)
  | .slice t x lo hi mx => sliceAE F gt t (ρ x) (lo.map ρ) (hi.map ρ) (mx.map ρ)
  | .fieldAddr t x f => (match fieldTF F t f with
    | some (off, ft) => if szOfF F ft = 0 then none else (ptrAddE gt (ρ x) off).map (·, [])
    | none => none)
  | .field t x f => (match fieldTF F t f, ρ x with
    | some (off, ft), .agg cs => (layF F ft).bind fun q => ((takeN (if q.1 = true then q.2 else 1) (cs.drop off)).bind (mkV q.1)).map (·, [])
    | _, _ => none)
  | .indexAddr t x i => (match ρ i with | .int _ n => (idxAE F gt t (ρ x) n).map (·, []) | _ => none)
  | .index t x i => (match ρ i with | .int _ n => (indexAF F t (ρ x) n).map (·, []) | _ => none)
  | .range t x => (match ρ x with | .str s => if strTF F t = true then some (.ptr id 0, [(id, .iter s 0)]) else none | _ => none)
  | .next it true => (match ρ it with
    | .ptr b 0 => (match gt b with
      | some (.iter s pos) => if pos < s.length then some (.tup [.bool true, .int .i64 pos, .int .i32 (decodeL s pos).1], [(b, .iter s (pos + (decodeL s pos).2))]) else some (.tup [.bool false], [])
      | _ => none)
    | _ => none)
  | .extract x i => (match ρ x with | .tup vs => (vs[i]?).map (·, []) | _ => none)
  | .call c => (match c.callee with
    | .builtin b => builtinAE F gt id b c.argTypes.toList (c.args.toList.map ρ)
    | _ => none)
  | _ => none

abbrev DenT := FP → (Operand → AVal) → (Nat → Option Blk) → Nat → Option (AVal × List (Nat × Blk))
def gNone : DenT := fun _ _ _ _ => none
def g_move (x : Operand) : DenT := fun F ρ gt id =>
  some (ρ x, [])
def g_assign (x : Operand) : DenT := fun F ρ gt id =>
  some (ρ x, [])
def g_pick (c a b : Operand) : DenT := fun F ρ gt id =>
  (match ρ c with | .bool t => some (if t = true then ρ a else ρ b, []) | _ => none)
def g_alloc (t : TypeId) : DenT := fun F ρ gt id =>
  (zeroTF F t).map fun cs => (.ptr id 0, [(id, .cells t cs)])
def g_box (t : TypeId) (x : Operand) : DenT := fun F ρ gt id =>
  if (ρ x).cells.all (solidE gt) = true then some (.ptr id 0, [(id, .cells t (ρ x).cells)]) else none
def g_build (t : TypeId) (parts : Array (Nat × Operand)) : DenT := fun F ρ gt id =>
  (buildAE F gt t (parts.toList.map fun p => (p.1, ρ p.2))).map fun cs => (.agg cs, [])
def g_buildSlice (t : TypeId) (len : Nat) (parts : Array (Nat × Operand)) : DenT := fun F ρ gt id =>
  (match elemTF F t with
    | some e => (rowsAE F gt e len (parts.toList.map fun p => (p.1, ρ p.2))).bind fun rows =>
      if 0 < szOfF F e then (if len * szOfF F e ≤ 16777216 then (if rows.all (fun r => r.all (solidE gt)) = true then some (.sub id len 0 len (some len), [(id, .arr e (szOfF F e) rows)]) else none) else none) else none
    | none => none)
def g_insert (t : TypeId) (m k v : Operand) : DenT := fun F ρ gt id =>
  (updXE F gt t (ρ m) (ρ k) (ρ v)).map fun ws => (.undef, ws)
def g_load (t : TypeId) (a : Operand) : DenT := fun F ρ gt id =>
  (layF F t).bind fun q => (rdCellsE gt (ρ a) (if q.1 = true then q.2 else 1)).bind fun cs => (mkV q.1 cs).map (·, [])
def g_store (t : TypeId) (a x : Operand) : DenT := fun F ρ gt id =>
  (layF F t).bind fun q => if (ρ x).cells.length = q.2 then
      (if (ρ x).cells.all (solidE gt) = true then (wrCellsE gt (ρ a) (ρ x).cells).map fun w => (.undef, [w]) else none)
    else none
def g_nilCheck (x : Operand) : DenT := fun F ρ gt id =>
  (match ρ x with
    | .ptr b o => some (.ptr b o, [])
    | .rptr cs => some (.rptr cs, [])
    | .func f a b => some (.func f a b, [])
    | _ => none)
def g_binOp (op : BinOp) (t : TypeId) (x y : Operand) (u : TypeId) : DenT := fun F ρ gt id =>
  ((nilAE F gt op t y (ρ x) (ρ y)).or (binQ F op t (ρ x) (ρ y))).map (·, [])
def g_unOp (op : UnOp) (t : TypeId) (x : Operand) : DenT := fun F ρ gt id =>
  (unA op (ρ x)).map (·, [])
def g_convert_x (src dst : TypeId) (x : Operand) : DenT := fun F ρ gt id =>
  (convXE F gt src dst (ρ x)).map (·, [])
def g_convert_a (src dst : TypeId) (x : Operand) : DenT := fun F ρ gt id =>
  (match markAE F gt src dst (ρ x) with
    | some r => some r
    | none => (convAE F gt false src dst (ρ x)).map (·, []))
def g_convert (src dst : TypeId) (x : Operand) : DenT := fun F ρ gt id =>
  match g_convert_x src dst x F ρ gt id with | some r => some r | none => g_convert_a src dst x F ρ gt id
def g_makeFunc (fn : Fn) (first caps : Array Operand) : DenT := fun F ρ gt id =>
  (match fn with
    | .func f => some (.func f (first.toList.map ρ) (caps.toList.map ρ), [])
    | _ => none)
def g_makeMap (t : TypeId) (r : Option Operand) : DenT := fun F ρ gt id =>
  (match r with
    | none => if (mapTF F t).isSome = true then some (.mapr id, [(id, .map [] 0)]) else none
    | some h => (match ρ h with | .int _ _ => if (mapTF F t).isSome = true then some (.mapr id, [(id, .map [] 0)]) else none | _ => none))
def g_makeSlice (t : TypeId) (l c : Operand) : DenT := fun F ρ gt id =>
  makeXF F id t (ρ l) (ρ c)
def g_slice_x (t : TypeId) (x : Operand) (lo hi mx : Option Operand) : DenT := fun F ρ gt id =>
  sliceXE F gt t (ρ x) (lo.map ρ) (hi.map ρ) (mx.map ρ)
def g_slice_a (t : TypeId) (x : Operand) (lo hi mx : Option Operand) : DenT := fun F ρ gt id =>
  sliceAE F gt t (ρ x) (lo.map ρ) (hi.map ρ) (mx.map ρ)
def g_slice (t : TypeId) (x : Operand) (lo hi mx : Option Operand) : DenT := fun F ρ gt id =>
  match g_slice_x t x lo hi mx F ρ gt id with | some r => some r | none => g_slice_a t x lo hi mx F ρ gt id
def g_fieldAddr (t : TypeId) (x : Operand) (f : Nat) : DenT := fun F ρ gt id =>
  (match fieldTF F t f with
    | some (off, ft) => if szOfF F ft = 0 then none else (ptrAddE gt (ρ x) off).map (·, [])
    | none => none)
def g_field (t : TypeId) (x : Operand) (f : Nat) : DenT := fun F ρ gt id =>
  (match fieldTF F t f, ρ x with
    | some (off, ft), .agg cs => (layF F ft).bind fun q => ((takeN (if q.1 = true then q.2 else 1) (cs.drop off)).bind (mkV q.1)).map (·, [])
    | _, _ => none)
def g_indexAddr_x (t : TypeId) (x i : Operand) : DenT := fun F ρ gt id =>
  (match ρ i with | .int _ n => (idxXE F gt t (ρ x) n).map (·, []) | _ => none)
def g_indexAddr_a (t : TypeId) (x i : Operand) : DenT := fun F ρ gt id =>
  (match ρ i with | .int _ n => (idxAE F gt t (ρ x) n).map (·, []) | _ => none)
def g_indexAddr (t : TypeId) (x i : Operand) : DenT := fun F ρ gt id =>
  match g_indexAddr_x t x i F ρ gt id with | some r => some r | none => g_indexAddr_a t x i F ρ gt id
def g_index (t : TypeId) (x i : Operand) : DenT := fun F ρ gt id =>
  (match ρ i with | .int _ n => (indexAF F t (ρ x) n).map (·, []) | _ => none)
def g_lookup (t : TypeId) (m k : Operand) (ok : Bool) : DenT := fun F ρ gt id =>
  (lookXE F gt t (ρ m) (ρ k) ok).map (·, [])
def g_mapUpdate (t : TypeId) (m k v : Operand) : DenT := fun F ρ gt id =>
  (updXE F gt t (ρ m) (ρ k) (ρ v)).map fun ws => (.undef, ws)
def g_mapEntry (t : TypeId) (m k : Operand) : DenT := fun F ρ gt id =>
  entXE F gt t (ρ m) (ρ k)
def g_entryStore (t : TypeId) (m s v : Operand) : DenT := fun F ρ gt id =>
  (storeXE gt (ρ m) (ρ s) (ρ v)).map fun ws => (.undef, ws)
def g_range (t : TypeId) (x : Operand) : DenT := fun F ρ gt id =>
  (match ρ x with | .str s => if strTF F t = true then some (.ptr id 0, [(id, .iter s 0)]) else none | _ => none)
def g_next (it : Operand) (s : Bool) : DenT := fun F ρ gt id =>
  cond s (match ρ it with
    | .ptr b 0 => (match gt b with
      | some (.iter s pos) => if pos < s.length then some (.tup [.bool true, .int .i64 pos, .int .i32 (decodeL s pos).1], [(b, .iter s (pos + (decodeL s pos).2))]) else some (.tup [.bool false], [])
      | _ => none)
    | _ => none) none
def g_extract (x : Operand) (i : Nat) : DenT := fun F ρ gt id =>
  (match ρ x with | .tup vs => (vs[i]?).map (·, []) | _ => none)
def g_call_x (c : Call) : DenT := fun F ρ gt id =>
  (match c.callee with
    | .builtin b => builtinXE F gt id b c.argTypes.toList (c.args.toList.map ρ)
    | _ => none)
def g_call_a (c : Call) : DenT := fun F ρ gt id =>
  (match c.callee with
    | .builtin b => builtinAE F gt id b c.argTypes.toList (c.args.toList.map ρ)
    | _ => none)
def g_call (c : Call) : DenT := fun F ρ gt id =>
  match g_call_x c F ρ gt id with | some r => some r | none => g_call_a c F ρ gt id
noncomputable def denG (op : Op) : DenT := @Op.rec (fun _ => DenT) g_move g_assign g_pick g_alloc g_box g_build g_buildSlice g_insert g_load g_store (fun _ => gNone) (fun _ => gNone) g_nilCheck g_binOp g_unOp g_convert (fun _ _ => gNone) (fun _ _ => gNone) g_makeFunc g_makeMap (fun _ _ => gNone) g_makeSlice g_slice g_fieldAddr g_field g_indexAddr g_index g_lookup g_mapUpdate g_mapEntry g_entryStore g_range g_next (fun _ => gNone) (fun _ _ _ _ => gNone) g_extract g_call (fun _ => gNone) (fun _ => gNone) (fun _ => gNone) (fun _ _ => gNone) (fun _ _ _ => gNone) (fun _ _ => gNone) op
noncomputable def isCall (op : Op) : Option Call := @Op.rec (fun _ => Option Call) (fun _ => none) (fun _ => none) (fun _ _ _ => none) (fun _ => none) (fun _ _ => none) (fun _ _ => none) (fun _ _ _ => none) (fun _ _ _ _ => none) (fun _ _ => none) (fun _ _ _ => none) (fun _ => none) (fun _ => none) (fun _ => none) (fun _ _ _ _ _ => none) (fun _ _ _ => none) (fun _ _ _ => none) (fun _ _ => none) (fun _ _ => none) (fun _ _ _ => none) (fun _ _ => none) (fun _ _ => none) (fun _ _ _ => none) (fun _ _ _ _ _ => none) (fun _ _ _ => none) (fun _ _ _ => none) (fun _ _ _ => none) (fun _ _ _ => none) (fun _ _ _ _ => none) (fun _ _ _ _ => none) (fun _ _ _ => none) (fun _ _ _ _ => none) (fun _ _ => none) (fun _ _ => none) (fun _ => none) (fun _ _ _ _ => none) (fun _ _ => none) some (fun _ => none) (fun _ => none) (fun _ => none) (fun _ _ => none) (fun _ _ _ => none) (fun _ _ => none) op
inductive MK where
  | range (t : TypeId) (x : Operand)
  | next (it : Operand) (s : Bool)
  | entry (it : Operand)
  | call (c : Call)
  | other
noncomputable def mKind (op : Op) : MK := @Op.rec (fun _ => MK) (fun _ => MK.other) (fun _ => MK.other) (fun _ _ _ => MK.other) (fun _ => MK.other) (fun _ _ => MK.other) (fun _ _ => MK.other) (fun _ _ _ => MK.other) (fun _ _ _ _ => MK.other) (fun _ _ => MK.other) (fun _ _ _ => MK.other) (fun _ => MK.other) (fun _ => MK.other) (fun _ => MK.other) (fun _ _ _ _ _ => MK.other) (fun _ _ _ => MK.other) (fun _ _ _ => MK.other) (fun _ _ => MK.other) (fun _ _ => MK.other) (fun _ _ _ => MK.other) (fun _ _ => MK.other) (fun _ _ => MK.other) (fun _ _ _ => MK.other) (fun _ _ _ _ _ => MK.other) (fun _ _ _ => MK.other) (fun _ _ _ => MK.other) (fun _ _ _ => MK.other) (fun _ _ _ => MK.other) (fun _ _ _ _ => MK.other) (fun _ _ _ _ => MK.other) (fun _ _ _ => MK.other) (fun _ _ _ _ => MK.other) MK.range MK.next MK.entry (fun _ _ _ _ => MK.other) (fun _ _ => MK.other) MK.call (fun _ => MK.other) (fun _ => MK.other) (fun _ => MK.other) (fun _ _ => MK.other) (fun _ _ _ => MK.other) (fun _ _ => MK.other) op
theorem isCall_some {op : Op} {c : Call} (h : isCall op = some c) : op = .call c := by
  cases op <;> first
    | (cases h; rfl)
    | cases h
theorem mKind_range {op : Op} {t : TypeId} {x : Operand} (h : mKind op = .range t x) : op = .range t x := by
  cases op <;> first
    | (cases h; rfl)
    | cases h
theorem mKind_next {op : Op} {x : Operand} {s : Bool} (h : mKind op = .next x s) : op = .next x s := by
  cases op <;> first
    | (cases h; rfl)
    | cases h
theorem mKind_entry {op : Op} {x : Operand} (h : mKind op = .entry x) : op = .entry x := by
  cases op <;> first
    | (cases h; rfl)
    | cases h
theorem mKind_call {op : Op} {c : Call} (h : mKind op = .call c) : op = .call c := by
  cases op <;> first
    | (cases h; rfl)
    | cases h
def denB (F : FP) (ρ : Operand → AVal) (gt : Nat → Option Blk) (id : Nat) (op : Op) : Option (AVal × List (Nat × Blk)) :=
  match op with
  | .buildSlice t n ps => denxE F ρ gt id (.buildSlice t n ps)
  | .makeSlice t l c => denxE F ρ gt id (.makeSlice t l c)
  | .makeMap t r => denxE F ρ gt id (.makeMap t r)
  | .lookup t m k b => denxE F ρ gt id (.lookup t m k b)
  | .mapUpdate t m k v => denxE F ρ gt id (.mapUpdate t m k v)
  | .insert t m k v => denxE F ρ gt id (.insert t m k v)
  | .mapEntry t m k => denxE F ρ gt id (.mapEntry t m k)
  | .entryStore t m s v => denxE F ρ gt id (.entryStore t m s v)
  | .slice t x lo hi mx => (match denxE F ρ gt id (.slice t x lo hi mx) with | some r => some r | none => denE F ρ gt id false (.slice t x lo hi mx))
  | .convert a b x => (match denxE F ρ gt id (.convert a b x) with | some r => some r | none => denE F ρ gt id false (.convert a b x))
  | .indexAddr t x i => (match denxE F ρ gt id (.indexAddr t x i) with | some r => some r | none => denE F ρ gt id false (.indexAddr t x i))
  | .call c => (match denxE F ρ gt id (.call c) with | some r => some r | none => denE F ρ gt id false (.call c))
  | op => denE F ρ gt id false op
theorem denG_eq {F : FP} {ρ : Operand → AVal} {gt : Nat → Option Blk} {id : Nat} {op : Op} : denG op F ρ gt id = denB F ρ gt id op := by
  cases op <;> first
    | rfl
    | (rename_i it s; cases s <;> rfl)

section
variable {P : Program} {sto : List Blk}

abbrev rd (sto : List Blk) : Nat → Option Blk := fun b => sto[b]?
theorem curOfE_eq : curOfE (rd sto) = curOf sto := rfl
theorem slcXE_eq : slcXE (rd sto) = slcX sto := by funext x; cases x <;> rfl
theorem nilAE_eq : nilAE (fo P) (rd sto) = nilA P sto := by funext a b c d e; cases d <;> cases e <;> simp only [nilAE, nilA, slcXE_eq, ifaceTF_eq, ptrTF_eq, elemTF_eq] <;> rfl
theorem solidE_eq : solidE (rd sto) = solid sto := by funext x; cases x <;> rfl
theorem cellsOKE_eq : cellsOKE (rd sto) = cellsOK sto := by funext x; cases x <;> rfl
theorem rdCellsE_eq : rdCellsE (rd sto) = rdCells sto := by funext x n; cases x <;> rfl
theorem wrCellsE_eq : wrCellsE (rd sto) = wrCells sto := by funext x n; cases x <;> rfl
theorem ptrAddE_eq : ptrAddE (rd sto) = ptrAdd sto := by funext x n; cases x <;> rfl
theorem rowsOfE_eq : rowsOfE (rd sto) = rowsOf sto := by funext x; cases x <;> rfl
theorem convAE_eq : convAE (fo P) (rd sto) = convA P sto := by funext a b c x; unfold convAE convA; rw [rowsOfE_eq] <;> rfl
theorem markAE_eq : markAE (fo P) (rd sto) = markA P sto := by funext a b x; cases x <;> rfl
theorem sliceAE_eq : sliceAE (fo P) (rd sto) = sliceA P sto := by funext a x b c d; cases x <;> rfl
theorem newRowsE_eq : newRowsE (fo P) (rd sto) = newRows P sto := by funext a x; unfold newRowsE newRows; rw [rowsOfE_eq] <;> rfl
theorem lenSE_eq : lenSE (fo P) (rd sto) = lenS P sto := by funext a x; unfold lenSE lenS; rw [curOfE_eq] <;> rfl
theorem capAE_eq : capAE (fo P) (rd sto) = capA P sto := by funext a x; cases x <;> rfl
theorem goBE_eq {t : TypeId} : ∀ (l : List (Nat × AVal)) (cs : List AVal), goBE (fo P) (rd sto) t cs l = goB P sto t cs l := by
  intro l
  induction l with
  | nil => intro cs; rfl
  | cons p l ih => intro cs; obtain ⟨f, v⟩ := p; simp only [goBE, goB, cellsOKE_eq, ih] <;> rfl
theorem buildAE_eq : buildAE (fo P) (rd sto) = buildA P sto := by funext t l; unfold buildAE buildA; simp only [goBE_eq] <;> rfl
theorem goRE_eq {e : TypeId} : ∀ (l : List (Nat × AVal)) (rows : List (List AVal)), goRE (fo P) (rd sto) e rows l = goR P sto e rows l := by
  intro l
  induction l with
  | nil => intro cs; rfl
  | cons p l ih => intro cs; obtain ⟨f, v⟩ := p; simp only [goRE, goR, cellsOKE_eq, ih] <;> rfl
theorem rowsAE_eq : rowsAE (fo P) (rd sto) = rowsA P sto := by funext t n l; unfold rowsAE rowsA; simp only [goRE_eq] <;> rfl
theorem idxAE_eq : idxAE (fo P) (rd sto) = idxA P sto := by funext t x i; unfold idxAE idxA; rw [ptrAddE_eq] <;> rfl
theorem newRowsXE_eq : newRowsXE (fo P) (rd sto) = newRowsX P sto := by funext t x; unfold newRowsXE newRowsX; simp only [newRowsE_eq, solidE_eq] <;> rfl
theorem convXE_eq : convXE (fo P) (rd sto) = convX P sto := by funext a b x; unfold convXE convX; simp only [newRowsXE_eq] <;> rfl
theorem appendBE_eq : appendBE (fo P) (rd sto) = appendB P sto := rfl
theorem appendXE_eq : appendXE (fo P) (rd sto) = appendX P sto := by funext a b c d e; unfold appendXE appendX; rw [newRowsXE_eq, appendBE_eq] <;> rfl
theorem sliceXE_eq : sliceXE (fo P) (rd sto) = sliceX P sto := rfl
theorem idxXE_eq : idxXE (fo P) (rd sto) = idxX P sto := rfl
theorem lenXE_eq : lenXE (fo P) (rd sto) = lenX P sto := by funext t x; cases x <;> rfl
theorem capXE_eq : capXE (fo P) (rd sto) = capX P sto := rfl
theorem copyXE_eq : copyXE (fo P) (rd sto) = copyX P sto := by funext a b c d; unfold copyXE copyX; rw [newRowsXE_eq] <;> rfl
theorem lookME_eq : lookME (fo P) (rd sto) = lookM P sto := by funext a b x; cases x <;> simp only [lookME, lookM, findKQ_eq] <;> rfl
theorem lookXE_eq : lookXE (fo P) (rd sto) = lookX P sto := by funext a b c d; unfold lookXE lookX; simp only [lookME_eq, keyKQ_eq] <;> rfl
theorem updXE_eq : updXE (fo P) (rd sto) = updX P sto := by funext a b c d; unfold updXE updX; simp only [findKQ_eq, keyKQ_eq] <;> rfl
theorem entXE_eq : entXE (fo P) (rd sto) = entX P sto := by funext a b c; unfold entXE entX; simp only [findKQ_eq, keyKQ_eq] <;> rfl
theorem delXE_eq : delXE (fo P) (rd sto) = delX P sto := by funext a b c; unfold delXE delX; simp only [findKQ_eq, keyKQ_eq] <;> rfl
theorem clearXE_eq : clearXE (fo P) (rd sto) = clearX P sto := rfl
theorem storeXE_eq : storeXE (rd sto) = storeX sto := rfl
theorem builtinXE_eq : builtinXE (fo P) (rd sto) = builtinX P sto := by funext a b c d; unfold builtinXE builtinX; simp only [lenXE_eq, capXE_eq, appendXE_eq, copyXE_eq, delXE_eq, clearXE_eq] <;> rfl
theorem denxE_eq {C : Ctx} {ρ : Operand → AVal} {id : Nat} {op : Op} : denxE (fo C.P) ρ (rd sto) id op = denx C ρ sto id op := by
  cases op <;> simp only [denxE, denx, convXE_eq, rowsAE_eq, solidE_eq, sliceXE_eq, idxXE_eq, lookXE_eq, updXE_eq, entXE_eq, storeXE_eq, builtinXE_eq] <;> rfl
theorem builtinAE_le {id : Nat} {b : Builtin} {ts : List TypeId} {args : List AVal} {y : AVal × List (Nat × Blk)} (h : builtinAE (fo P) (rd sto) id b ts args = some y) : builtinA P sto id b ts args = some y := by
  unfold builtinAE at h
  unfold builtinA
  split at h
  · rw [lenSE_eq] at h; exact h
  · rw [capAE_eq] at h; exact h
  · exact h
  · exact h
  · cases h
theorem denE_le {C : Ctx} {ρ : Operand → AVal} {id : Nat} {own : Bool} {op : Op} {y : AVal × List (Nat × Blk)} (h : denE (fo C.P) ρ (rd sto) id own op = some y) : den C ρ sto id own op = some y := by
  cases op
  case call c =>
    simp only [denE] at h
    simp only [den]
    cases hc : c.callee with
    | builtin b => rw [hc] at h; exact builtinAE_le h
    | _ => rw [hc] at h; cases h
  case next it s =>
    cases s
    · cases h
    · exact h
  all_goals
    simp only [denE, solidE_eq, buildAE_eq, rdCellsE_eq, wrCellsE_eq, markAE_eq, convAE_eq, sliceAE_eq, ptrAddE_eq, idxAE_eq, nilAE_eq, binQ_eq] at h
    simp only [den]
    first
      | exact h
      | cases h
end
end Go.Proofs.YtaajfbcopafkaaaGreatDoor.Ai
