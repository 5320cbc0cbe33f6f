/- CharstringsBack: for every input that fits the row, the call returns true and each argument reads as before; its package variables are tied to the program's text by the given tie. Printed by a program of this seat. -/
import Derived.Test.YteenamolccbcfaaDoorCards
import Derived.Test.YteenamolccbcfaaDoorTie
import Derived.Test.YteenamolccbcfaaDoorShapes
import Derived.WalkKit
import Derived.ProofKit
import Derived.OpenShut
import Derived.Deep.DeepHandedRow
import Derived.Lib.LaidTab
import Derived.Lib.LaidIn
namespace Go.Proofs.YteenamolccbcfaaDoor.charstringsBack
open Go.ChangeShapes Go.WideShapes Go.ChangeAt Go.RowKit
set_option maxRecDepth 100000

theorem own : ownKnob Tryd.prog.godebug = none := by kernel_rfl
theorem laidOut : laidOutB Tryd.prog = true := by kernel_rfl
theorem plainTs : Ai.plainB Tryd.prog [5, 22, 35, 37] = true := by kernel_rfl
theorem params_eq : Tryd.f9.params.toList = [37] := by rw [Tryd.params9]
theorem paramsOK : ∀ t, t ∈ Tryd.f9.params.toList → Tryd.prog.readableRec t = true ∧ t < Tryd.prog.types.size := by
  rw [params_eq]
  intro t ht
  simp only [List.mem_cons, or_false, List.not_mem_nil] at ht
  subst ht
  all_goals exact ⟨by kernel_rfl, of_decide_eq_true (by kernel_rfl)⟩

/-- A world for the witness: the settled one, the two tables holding what their initialisers lay. -/
noncomputable def laidWorld (os : Os) : World :=
  let w0 := World.holding Tryd.prog os ⟨#[], #[], []⟩
  let put (h : Array Obj) (g : Nat) (cs : Array Value) : Array Obj := h.modify g fun
    | .cells _ t frozen => .cells cs t frozen
    | o => o
  let h1 := put w0.heap 1 (Go.Pinned.utf8FirstZ.map fun (z : Nat) => Value.int .u8 (z : Int)).toArray
  let h2 := put h1 2 ((Ai.utf8Accept).flatMap fun p => [Value.int .u8 p.1, Value.int .u8 p.2]).toArray
  { w0 with heap := h2 }
theorem laid_met (os : Os) : laidMet Tryd.prog Rows.charstringsBackRow.laid ((laidWorld os).forCall (fun _ _ => 0) ⟨#[], #[.agg #[.int .u8 0, .slice none 0 0]], []⟩).memory :=
  laidMet_of_run' 8 (by kernel_rfl) (by kernel_rfl)
theorem reads (os : Os) {H : Type} (enc : TypeId × Value → H) : ∃ places, DataW.whole enc Tryd.prog ((laidWorld os).forCall (fun _ _ => 0) ⟨#[], #[.agg #[.int .u8 0, .slice none 0 0]], []⟩).memory Tryd.f9.params.toList Rows.charstringsBackSpec.vars false (#[.agg #[.int .u8 0, .slice none 0 0]] : Array Value).toList 8 = some ([.agg [.lit (.int .u8 0), .nil]], [], places) :=
  ⟨[], by kernel_rfl⟩

theorem contract (H : Type) (enc : TypeId × Value → H) (W : World) (base : Nat) (args : Array Value) (ds gs : List (DataW H)) (before : List MemPlace)
    (hval : ∀ (j : Nat) t v, Tryd.f9.params[j]? = some t → args[j]? = some v → Value.okWide Tryd.prog W .any base t v)
    (hW : DataW.Whole enc Tryd.prog Tryd.f9.params.toList Rows.charstringsBackSpec.vars false W args.toList ds gs before) (hL : laidMetH Tryd.prog Rows.charstringsBackRow.laid W) :
    Calls Tryd.prog 9 args W fun e W' => ∃ v, e = .returned v ∧ Rows.charstringsBackSpec.post enc Tryd.prog Tryd.f9 false true false false W args v W' := by
  have hW' := hW
  obtain ⟨p, q, hA, hV, rfl, hfz, hnd⟩ := hW
  have hg0 : gs = [] := by
    cases gs with
    | nil => rfl
    | cons _ _ => exact hV.elim
  subst hg0
  rw [params_eq] at hA
  obtain ⟨xs, h1, h2, h3⟩ := Ai.read_args (r := .any) (base := base) plainTs (by decide) (fun j t v ht hv => hval j t v (by rw [← Array.getElem?_toList, params_eq]; exact ht) (by rw [← Array.getElem?_toList]; exact hv)) hA
  have hglob := Ai.globs_ok (Lib.laidMet.reads hL (.head _)) (Lib.laidMet.reads hL (.tail _ (.head _))) (by kernel_rfl) (by kernel_rfl)
  have hc := Ai.law_calls (C := Ai.Cx) (by kernel_rfl) Ai.X_sound Tryd.func9 (c := Tryd.f9.body.getD .skip) (by kernel_rfl) (by decide) (Ai.shCharstringsBack h1) (W := W) (vs := args) hglob (by rw [← h2, Array.length_toList]) (fun i x v hx hv => h3 i x v hx (by rw [Array.getElem?_toList]; exact hv))
  have hds : ∃ d0, ds = [d0] := by
    have hA' := hA
    obtain ⟨_, _, d0, _, _, _, _, rfl, _, _, hA'⟩ := trodAll_cons hA'
    obtain ⟨_, rfl, _⟩ := trodAll_nil hA'
    exact ⟨d0, rfl⟩
  obtain ⟨d0, rfl⟩ := hds
  refine hc.mono fun e W' ⟨he, bel⟩ => ?_
  subst he
  exact ⟨_, rfl, Ai.law_post laidOut paramsOK (bt := 4) (by kernel_rfl) Tryd.underlying4 rfl hW' rfl rfl rfl bel⟩

theorem lifted (os : Os) (started : os.Started) (H : Type) (enc : TypeId × Value → H) (F : Stop.Interp) :
    ReturnsInHanded {} Tryd.checked os 9 .any ((OpenSpec.ofChange Rows.charstringsBackSpec).preRow enc Tryd.prog Tryd.f9 Rows.charstringsBackRow.domain false Rows.charstringsBackRow.laid) (((OpenSpec.ofChange Rows.charstringsBackSpec).at F).post enc Tryd.prog Tryd.f9 false true false false) := by
  obtain ⟨places, hx⟩ := reads os enc
  refine returnsInHanded_of_row (C := Tryd.checked) (s := OpenSpec.ofChange Rows.charstringsBackSpec) own started (by kernel_rfl) Tryd.func9
    (witness_row_at (enc := enc) (C := Tryd.checked) false (laidWorld os) #[.agg #[.int .u8 0, .slice none 0 0]] rfl (by kernel_rfl) (by kernel_rfl) (by kernel_rfl)
      (OpenSpec.preRow_of_cond 8 hx (by kernel_rfl) (fun k hk => by cases hk) (by kernel_rfl) (laid_met os))) ?_
  intro W base args ds gs before hval hW _ _ _ hL _ _
  exact contract H enc W base args ds gs before hval hW hL

theorem said : Rows.CharstringsBackSaid :=
  OpenClaim.holds_of_cond 9 Tryd.f9 rfl rfl rfl rfl rfl rfl rfl ⟨rfl, rfl, rfl, rfl, rfl⟩ rfl rfl rfl rfl rfl (by kernel_rfl) Tryd.func9 (by kernel_rfl)
    (of_decide_eq_true (by kernel_rfl)) (by unfold Func.isWrapper; first | (rw [if_pos (by decide +kernel)]; kernel_rfl) | (rw [if_neg (by decide +kernel)]; exact ⟨rfl, rfl⟩))
    (fun os started H enc _ F => by rw [OpenClaim.pre_eq_preRow]; exact lifted os started H enc F)

theorem plain (f : FuncId) (fn : Func) (hf : Tryd.pinned.checked.prog.funcNamed "vidimus/vidimuslaw09.CharstringsBack" = some f) (hfn : Tryd.pinned.checked.prog.funcs[f]? = some fn) :
    false = Tryd.pinned.checked.prog.looks [] ∧ ∀ (j : Nat) t, fn.params[j]? = some t → Tryd.pinned.checked.prog.wantsStandIn t = false := by
  obtain rfl : f = 9 := Option.some.inj ((show Tryd.prog.funcNamed "vidimus/vidimuslaw09.CharstringsBack" = some 9 by kernel_rfl).symm.trans hf) |>.symm
  obtain rfl : fn = Tryd.f9 := (Option.some.inj (Tryd.func9.symm.trans hfn)).symm
  refine ⟨by kernel_rfl, fun j t ht => ?_⟩
  have ht : t ∈ Tryd.f9.params.toList := by rw [← Array.getElem?_toList] at ht; exact List.mem_of_getElem? ht
  rw [params_eq] at ht
  simp only [List.mem_cons, or_false, List.not_mem_nil] at ht
  subst ht
  · exact (show Tryd.prog.wantsStandIn 37 = false by kernel_rfl)

theorem card : Rows.CharstringsBackCardSaid :=
  Claim7.holds_tied_plain_at .later [] _ _ _ _ said (fun _ h => by cases h) (by kernel_rfl) (fun _ h => by cases h) charstringsBack_row_tie rfl ⟨rfl, rfl⟩ (by kernel_rfl) rfl plain (by kernel_rfl)
end Go.Proofs.YteenamolccbcfaaDoor.charstringsBack
namespace Go.Proofs.YteenamolccbcfaaDoor
theorem charstringsBack_card : Rows.CharstringsBackCardSaid := charstringsBack.card
#print axioms charstringsBack_card
end Go.Proofs.YteenamolccbcfaaDoor
