/- The seat's program, with the tables of UTF-8 and Go's own functions without a body, for symbolic runs and for runs by the kernel. Own work of this seat. -/
import Derived.Test.YtaajfbcopafkaaaGreatDoorAiTypes
import Derived.Test.YtaajfbcopafkaaaGreatDoorAiEv
import Derived.Lib.Bytealg
import Derived.Lib.BytesEntry
import Derived.Lib.ItoaNum
import Derived.KernelRfl
namespace Go.Proofs.YtaajfbcopafkaaaGreatDoor.Ai
open Go
set_option maxRecDepth 100000
/-- What is known of functions from outside: Go's own without a body. -/
inductive XCalls : FuncId → List AVal → AVal → Prop
  | indexByte (s : List UInt8) (c : Int) : XCalls 201 [.str s, .int .u8 c] (.int .i64 (Lib.indexByte s c.toNat.toUInt8))
  | count (s : List UInt8) (c : Int) : XCalls 160 [.str s, .int .u8 c] (.int .i64 (Lib.countByte s c.toNat.toUInt8))
  | bcmp (a b : List UInt8) (c d : Option Nat) : XCalls 78 [.slc 1 (a.map bytesRow) c, .slc 1 (b.map bytesRow) d] (.int .i64 (Lib.compareBytes a b))

/-- Go's tables for UTF-8. -/
def utf8First : List Int := (List.range 256).map fun x =>
  if x < 128 then 240 else if x < 194 then 241 else if x < 224 then 2 else if x = 224 then 19 else if x = 237 then 35 else if x < 240 then 3 else if x = 240 then 52 else if x < 244 then 4 else if x = 244 then 68 else 241
def utf8Accept : List (Int × Int) := [(128, 191), (160, 191), (128, 159), (144, 191), (128, 143), (0, 0), (0, 0), (0, 0), (0, 0), (0, 0), (0, 0), (0, 0), (0, 0), (0, 0), (0, 0), (0, 0)]
/-- times.lengths. -/
def daysOf : List Int := [31, 28, 31, 30, 31, 30, 31, 31, 30, 31, 30, 31]
/-- internal/strconv.uint64pow10. -/
def pow10s : List Int := [1, 10, 100, 1000, 10000, 100000, 1000000, 10000000, 100000000, 1000000000, 10000000000, 100000000000, 1000000000000, 10000000000000, 100000000000000, 1000000000000000, 10000000000000000, 100000000000000000, 1000000000000000000, 10000000000000000000]
/-- The variables whose whole block is known. -/
def tabsG : Nat → Option (Array Value)
  | 5 => some (Lib.pow10Tab.map fun z => Value.int .u64 z).toArray
  | _ => none
def globs : Nat → AVal
  | 5 => .rptr (flatRows (fun n => [.int .u64 n]) pow10s)
  | 0 => .rptr (flatRows (fun n => [.int .i64 n]) daysOf)
  | 2 => .rptr (flatRows (fun n => [.int .u8 n]) utf8First)
  | 3 => .rptr (flatRows (fun p : Int × Int => [.int .u8 p.1, .int .u8 p.2]) utf8Accept)
  | _ => .dead
/-- The same, as a function. -/
def xe : Nat → List AVal → (Nat → Option Blk) → Option AVal
  | 201, [.str s, .int .u8 c], _ => some (.int .i64 (Lib.indexByte s c.toNat.toUInt8))
  | 160, [.str s, .int .u8 c], _ => some (.int .i64 (Lib.countByte s c.toNat.toUInt8))
  | _, _, _ => none
/-- For the runs by the kernel. -/
noncomputable def Cb : Ctx := { P := Tryz.prog, glob := globs, X := fun _ _ _ => False, I := tabI Tryz.prog, hI := tabI_eq _, J := tabJ Tryz.prog, hJ := tabJ_eq _, XE := xe, tabs := tabsG }
noncomputable def Kx : CB := ⟨Tryz.prog, globs, tabI Tryz.prog, tabJ Tryz.prog, xe⟩
/-- For the symbolic runs: what has been run is known. -/
noncomputable def Cx : Ctx := { Cb with X := fun f args r => CallS Cb f args [] r [] }
noncomputable def Sx0 : Sx := ⟨Cx, tyAt tyL, tyL_TI tyL_ok⟩
theorem Cb_mixed : Cb.P.follows .mixedOrders = true := by kernel_rfl
theorem Cb_Y : YSound Cb := fun _ _ _ _ _ h => h.elim
theorem X_sound : Sound Cx (CallN Cx 0) := outside_sound (C := Cb) fun _ _ _ h => h
theorem names_all : (Cb.P.funcs.toList.all fun fn => fn.body.isNone || !(fn.name == "runtime.NumGoroutine")) = true := by kernel_rfl

theorem pv_str {w : World} {ok : Nat → Prop} {s : List UInt8} {v : Value} (h : PV w ok (.str s) v) : ∃ b : ByteArray, b.data.toList = s ∧ v = .string b := by
  cases h with
  | str b l h => exact ⟨b, h, rfl⟩
theorem pv_int {w : World} {ok : Nat → Prop} {k : IntKind} {n : Int} {v : Value} (h : PV w ok (.int k n) v) : v = .int k n := by
  cases h with
  | int => rfl
theorem two_args {vs : Array Value} {x y : Value} (hs : vs.size = 2) (h0 : vs[0]? = some x) (h1 : vs[1]? = some y) : vs = #[x, y] := by
  obtain ⟨l⟩ := vs
  match l, hs with
  | [a, b], _ =>
    simp at h0 h1
    subst h0; subst h1; rfl
theorem bytes_pv {P : Program} {w : World} {ok : Nat → Prop} {l : List UInt8} {cap : Option Nat} {v : Value} (h : PV w ok (.slc 1 (l.map bytesRow) cap) v) : (Extern.Bytes.bytesOf v).run P w = .ok ⟨l.toArray⟩ w := by
  cases h with
  | slc _ _ _ A c val hsz hcell hc hcap hnil hm hr hv =>
    have hlen : (l.map bytesRow).length = (l.map fun b => (b.toNat : Int)).length := by simp
    have hb : Lib.bytesOf (l.map fun b => (b.toNat : Int)) = l := by simp [Lib.bytesOf, Function.comp_def]
    cases A with
    | none =>
      have h0 := hnil rfl
      have : l = [] := List.eq_nil_of_length_eq_zero (by simp at hc; omega)
      subst this; rfl
    | some a =>
      rw [hlen]
      have cells : ∀ (j : Nat) (x : Int), (l.map fun b => (b.toNat : Int))[j]? = some x → w.cell? (a.add j) = some (.int .u8 x) := by
        intro j x hj
        rw [List.getElem?_map] at hj
        cases hl : l[j]? with
        | none => rw [hl] at hj; cases hj
        | some b =>
          rw [hl] at hj; cases hj
          have hrow : (l.map bytesRow)[j]? = some (bytesRow b) := by rw [List.getElem?_map, hl]; rfl
          obtain ⟨a', ha, _, hcl⟩ := hr j _ 0 _ hrow rfl
          cases ha
          rw [Nat.mul_one, Nat.add_zero] at hcl
          rw [hcl, pv_int (hv j _ 0 _ hrow rfl)]
      have key := Lib.run_loadBytesX (P := P) w (l.map fun b => (b.toNat : Int)) a .empty cells
      rw [hb, show ByteArray.empty.data ++ l.toArray = l.toArray from (by show #[] ++ l.toArray = l.toArray; simp)] at key
      exact key
theorem x_ok {f : FuncId} {args : List AVal} {r : AVal} (h : XCalls f args r) : ∀ (E : Env) (w : World) (vs : Array Value), VL w E args vs → Invokes Cb.P f vs w fun v w' => w' = w ∧ ∀ ok, PV w ok r v := by
  intro E w vs hvl
  obtain ⟨hsz, hv⟩ := hvl
  unfold Invokes
  cases h with
  | indexByte s c =>
    obtain ⟨b, rfl, h0⟩ := pv_str ((hv 0 _ _ rfl (Array.getElem?_eq_getElem (by rw [hsz]; exact Nat.le_of_ble_eq_true rfl))).pv rfl)
    have h1 := pv_int ((hv 1 _ _ rfl (Array.getElem?_eq_getElem (by rw [hsz]; exact Nat.le_of_ble_eq_true rfl))).pv rfl)
    have e : vs = #[.string b, .int .u8 c] := two_args hsz (by rw [Array.getElem?_eq_getElem (by rw [hsz]; exact Nat.le_of_ble_eq_true rfl), h0]) (by rw [Array.getElem?_eq_getElem (by rw [hsz]; exact Nat.le_of_ble_eq_true rfl), h1])
    subst e
    have hrun := run_callFunc_extern (P := Cb.P) Tryz.func201 (by kernel_rfl) (by kernel_rfl) (by kernel_rfl) (e := Extern.BytealgIndexByte.indexByte) (by kernel_rfl) #[.string b, .int .u8 c] w
    rw [Lib.run_indexByteString] at hrun
    rw [hrun]
    simp only [Result.andThen]
    exact ⟨trivial, fun ok => .int _ _⟩
  | count s c =>
    obtain ⟨b, rfl, h0⟩ := pv_str ((hv 0 _ _ rfl (Array.getElem?_eq_getElem (by rw [hsz]; exact Nat.le_of_ble_eq_true rfl))).pv rfl)
    have h1 := pv_int ((hv 1 _ _ rfl (Array.getElem?_eq_getElem (by rw [hsz]; exact Nat.le_of_ble_eq_true rfl))).pv rfl)
    have e : vs = #[.string b, .int .u8 c] := two_args hsz (by rw [Array.getElem?_eq_getElem (by rw [hsz]; exact Nat.le_of_ble_eq_true rfl), h0]) (by rw [Array.getElem?_eq_getElem (by rw [hsz]; exact Nat.le_of_ble_eq_true rfl), h1])
    subst e
    have hrun := run_callFunc_extern (P := Cb.P) Tryz.func160 (by kernel_rfl) (by kernel_rfl) (by kernel_rfl) (e := Extern.BytealgCount.count) (by kernel_rfl) #[.string b, .int .u8 c] w
    rw [Lib.run_countString] at hrun
    rw [hrun]
    simp only [Result.andThen]
    exact ⟨trivial, fun ok => .int _ _⟩
  | bcmp a b c d =>
    have hlt0 : 0 < vs.size := by rw [hsz]; exact Nat.le_of_ble_eq_true rfl
    have hlt1 : 1 < vs.size := by rw [hsz]; exact Nat.le_of_ble_eq_true rfl
    have h0 := bytes_pv (P := Cb.P) ((hv 0 _ _ rfl (Array.getElem?_eq_getElem hlt0)).slc_inv)
    have h1 := bytes_pv (P := Cb.P) ((hv 1 _ _ rfl (Array.getElem?_eq_getElem hlt1)).slc_inv)
    have e : vs = #[vs[0], vs[1]] := two_args hsz (Array.getElem?_eq_getElem hlt0) (Array.getElem?_eq_getElem hlt1)
    generalize vs[0] = v0 at *
    generalize vs[1] = v1 at *
    subst e
    have hrun := run_callFunc_extern (P := Cb.P) Tryz.func78 (by kernel_rfl) (by kernel_rfl) (by kernel_rfl) (e := Extern.BytealgCompare.compare) (by kernel_rfl) #[v0, v1] w
    have hc : (Extern.BytealgCompare.compare #[v0, v1]).run Cb.P w = .ok (.int .i64 (Lib.compareBytes a b)) w := by
      change Sem.run Cb.P (do pure (goInt (Extern.BytealgCompare.cmp (← Extern.Bytes.bytesOf v0) (← Extern.Bytes.bytesOf v1)))) w = _
      simp only [Sem.run_bind, h0, h1, Result.andThen_ok, Sem.run_pure, Lib.cmp_eq, goInt]
    rw [hc] at hrun
    rw [hrun]
    simp only [Result.andThen]
    exact ⟨trivial, fun ok => .int _ _⟩
theorem x_calls {f : FuncId} {args : List AVal} {r : AVal} (h : XCalls f args r) {sto : List Blk} : CallS Cb f args sto r sto := fun E w vs hr hv => (x_ok h E w vs hv).mono fun v w' ⟨hw, hp⟩ => by subst hw; exact ⟨E, hr, .pure (hp _), Step.refl _ _ _, Nw.refl, Nat.le_refl _⟩
theorem xe_calls {f : FuncId} {args : List AVal} {r : AVal} {gt : Nat → Option Blk} (h : xe f args gt = some r) : XCalls f args r := by
  unfold xe at h
  split at h
  · cases h; exact .indexByte _ _
  · cases h; exact .count _ _
  · cases h
theorem names_ok : NamesOK Cb := by
  refine ⟨?_, fun f args r sto h => x_calls (xe_calls h)⟩
  intro g fn hg hb he
  have h1 : fn ∈ Cb.P.funcs.toList := by rw [← Array.getElem?_toList] at hg; exact List.mem_of_getElem? hg
  have h2 := List.all_eq_true.1 names_all fn h1
  cases hbo : fn.body with
  | none => rw [hbo] at hb; cases hb
  | some c => rw [hbo, he] at h2; simp at h2
theorem X_call {f : FuncId} {args : List AVal} {r : AVal} (h : XCalls f args r) : CallF Cx f args [] r [] := ⟨0, rfl, rfl, x_calls h⟩
theorem kx_eq : cb Cb = Kx := rfl
/-- A closed call, run by the kernel. -/
theorem closedT {Ms : List Nat} {tab : List TE} (ht : TabOK Cb tab) {n : Nat} {g : FuncId} {b : Bool} (h : runE Kx Ms tab n g [] b = true) : CallF Cx g [] [] (.bool b) [] := ⟨0, rfl, rfl, runE_sound Cb_mixed names_ok Cb_Y ht (by rw [kx_eq]; exact h)⟩
theorem closed {Ms : List Nat} {n : Nat} {g : FuncId} {b : Bool} (h : runE Kx Ms [] n g [] b = true) : CallF Cx g [] [] (.bool b) [] := closedT .nil h
theorem closedV {Ms : List Nat} {n : Nat} {g : FuncId} {args : List AVal} {r : AVal} (h : runV Kx Ms [] n g args r = true) : CallF Cx g args [] r [] := ⟨0, rfl, rfl, runV_sound Cb_mixed names_ok Cb_Y .nil (by rw [kx_eq]; exact h)⟩
theorem tabCons {Ms : List Nat} {tab : List TE} {n : Nat} {t : TE} (ht : TabOK Cb tab) (h : chkE Kx Ms tab n t = true) : TabOK Cb (t :: tab) := ht.cons Cb_mixed names_ok Cb_Y (by rw [kx_eq]; exact h)
end Go.Proofs.YtaajfbcopafkaaaGreatDoor.Ai
