/- The seat's program, for the symbolic runs; Go's own functions without a body. Own work of this seat. -/
import Derived.Test.YteenamolccbcfaaDoorAiTypes
import Derived.Lib.Bytealg
namespace Go.Proofs.YteenamolccbcfaaDoor.Ai
open Go
/-- What is known of functions from outside: Go's own without a body. -/
inductive XCalls : FuncId → List AVal → AVal → Prop
  | indexByte (s : List UInt8) (c : Int) : XCalls 70 [.str s, .int .u8 c] (.int .i64 (Lib.indexByte s c.toNat.toUInt8))
  | cmp (a b : List UInt8) : XCalls 62 [.str a, .str b] (.int .i64 (Lib.compareBytes a b))

/-- Go's tables for UTF-8. -/
def utf8First : List Int := (List.range 256).map fun x =>
  if x < 128 then 240 else if x < 194 then 241 else if x < 224 then 2 else if x = 224 then 19 else if x = 237 then 35 else if x < 240 then 3 else if x = 240 then 52 else if x < 244 then 4 else if x = 244 then 68 else 241
def utf8Accept : List (Int × Int) := [(128, 191), (160, 191), (128, 159), (144, 191), (128, 143), (0, 0), (0, 0), (0, 0), (0, 0), (0, 0), (0, 0), (0, 0), (0, 0), (0, 0), (0, 0), (0, 0)]
def globs : Nat → AVal
  | 1 => .rptr (flatRows (fun n => [.int .u8 n]) utf8First)
  | 2 => .rptr (flatRows (fun p : Int × Int => [.int .u8 p.1, .int .u8 p.2]) utf8Accept)
  | _ => .dead
noncomputable def Cx : Ctx := ⟨Tryd.prog, globs, XCalls⟩
noncomputable def Sx0 : Sx := ⟨Cx, tyAt tyL, tyL_TI tyL_ok⟩

theorem pv_str {w : World} {ok : Nat → Prop} {s : List UInt8} {v : Value} (h : PV w ok (.str s) v) : ∃ b : ByteArray, b.data.toList = s ∧ v = .string b := by
  cases h with
  | str b l h => exact ⟨b, h, rfl⟩
theorem pv_int {w : World} {ok : Nat → Prop} {k : IntKind} {n : Int} {v : Value} (h : PV w ok (.int k n) v) : v = .int k n := by
  cases h with
  | int => rfl
theorem two_args {vs : Array Value} {x y : Value} (hs : vs.size = 2) (h0 : vs[0]? = some x) (h1 : vs[1]? = some y) : vs = #[x, y] := by
  obtain ⟨l⟩ := vs
  match l, hs with
  | [a, b], _ =>
    simp at h0 h1
    subst h0; subst h1; rfl
theorem X_sound : Sound Cx (CallN Cx 0) := by
  intro f args sto r sto' ⟨hs, hs', h⟩ E w vs hr hvl
  subst hs; subst hs'
  obtain ⟨hsz, hv⟩ := hvl
  unfold Invokes
  have done : ∀ {v : Value} {x : AVal}, (∀ ok, PV w ok x v) → ∃ E', Rel Cx E' [] w ∧ V w E' x v ∧ Step E [] w E' [] w := fun h => ⟨E, hr, .pure (h _), .refl _ _ _⟩
  cases h with
  | indexByte s c =>
    obtain ⟨b, rfl, h0⟩ := pv_str ((hv 0 _ _ rfl (Array.getElem?_eq_getElem (by rw [hsz]; exact Nat.le_of_ble_eq_true rfl))).pv rfl)
    have h1 := pv_int ((hv 1 _ _ rfl (Array.getElem?_eq_getElem (by rw [hsz]; exact Nat.le_of_ble_eq_true rfl))).pv rfl)
    have e : vs = #[.string b, .int .u8 c] := two_args hsz (by rw [Array.getElem?_eq_getElem (by rw [hsz]; exact Nat.le_of_ble_eq_true rfl), h0]) (by rw [Array.getElem?_eq_getElem (by rw [hsz]; exact Nat.le_of_ble_eq_true rfl), h1])
    subst e
    have hrun := run_callFunc_extern (P := Cx.P) Tryd.func70 (by kernel_rfl) (by kernel_rfl) (by kernel_rfl) (e := Extern.BytealgIndexByte.indexByte) (by kernel_rfl) #[.string b, .int .u8 c] w
    rw [Lib.run_indexByteString] at hrun
    rw [hrun]
    simp only [Result.andThen]
    exact done fun ok => .int _ _
  | cmp a b =>
    obtain ⟨a, rfl, h0⟩ := pv_str ((hv 0 _ _ rfl (Array.getElem?_eq_getElem (by rw [hsz]; exact Nat.le_of_ble_eq_true rfl))).pv rfl)
    obtain ⟨b, rfl, h1⟩ := pv_str ((hv 1 _ _ rfl (Array.getElem?_eq_getElem (by rw [hsz]; exact Nat.le_of_ble_eq_true rfl))).pv rfl)
    have e : vs = #[.string a, .string b] := two_args hsz (by rw [Array.getElem?_eq_getElem (by rw [hsz]; exact Nat.le_of_ble_eq_true rfl), h0]) (by rw [Array.getElem?_eq_getElem (by rw [hsz]; exact Nat.le_of_ble_eq_true rfl), h1])
    subst e
    have hrun := run_callFunc_extern (P := Cx.P) Tryd.func62 (by kernel_rfl) (by kernel_rfl) (by kernel_rfl) (e := Extern.BytealgCompare.compare) (by kernel_rfl) #[.string a, .string b] w
    rw [Lib.run_compareString] at hrun
    rw [hrun]
    simp only [Result.andThen]
    exact done fun ok => .int _ _
theorem X_call {f : FuncId} {args : List AVal} {r : AVal} (h : XCalls f args r) : CallF Cx f args [] r [] := ⟨0, rfl, rfl, h⟩
end Go.Proofs.YteenamolccbcfaaDoor.Ai
