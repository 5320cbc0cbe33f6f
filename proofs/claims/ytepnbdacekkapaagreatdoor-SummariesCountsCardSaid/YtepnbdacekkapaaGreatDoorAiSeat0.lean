/- The seat's program, for runs that read no package variable and no function from outside. Own work of this seat. -/
import Derived.Test.YtepnbdacekkapaaGreatDoorAiTypes
import Derived.Test.YtepnbdacekkapaaGreatDoorAiEv
import Derived.KernelRfl
namespace Go.Proofs.YtepnbdacekkapaaGreatDoor.Ai
open Go
noncomputable def Cx : Ctx := { P := Tryz.prog, glob := fun _ => .dead, X := fun _ _ _ => False, I := tabI Tryz.prog, hI := tabI_eq _, J := tabJ Tryz.prog, hJ := tabJ_eq _ }
noncomputable def Sx0 : Sx := ⟨Cx, tyAt tyL, tyL_TI tyL_ok⟩
theorem X_sound : Sound Cx (CallN Cx 0) := by
  intro f args sto r sto' ⟨_, _, h⟩
  exact h.elim
theorem globs_dead {W : World} : ∀ g, Cx.glob g = .dead ∨ PV W (fun k => k < W.heap.size) (Cx.glob g) (.pointer (some ⟨g, 0, none⟩)) := fun _ => .inl rfl
theorem names_all : (Cx.P.funcs.toList.all fun fn => fn.body.isNone || !(fn.name == "runtime.NumGoroutine")) = true := by kernel_rfl
theorem names_ok : NamesOK Cx.P := by
  intro g fn hg hb he
  have h1 : fn ∈ Cx.P.funcs.toList := by rw [← Array.getElem?_toList] at hg; exact List.mem_of_getElem? hg
  have h2 := List.all_eq_true.1 names_all fn h1
  cases hbo : fn.body with
  | none => rw [hbo] at hb; cases hb
  | some c => rw [hbo, he] at h2; simp at h2
/-- A closed call, run by the kernel. -/
theorem closed {Ms : List Nat} {n : Nat} {g : FuncId} {b : Bool} (h : runE Cx Ms [] n g [] b = true) : CallF Cx g [] [] (.bool b) [] := runE_sound names_ok .nil h
/-- The same with a table of calls that are known. -/
theorem closedT {Ms : List Nat} {tab : List TE} {k : Nat} (ht : TabOK Cx k tab) {n : Nat} {g : FuncId} {b : Bool} (h : runE Cx Ms tab n g [] b = true) : CallF Cx g [] [] (.bool b) [] := runE_sound names_ok ht h
theorem tabCons {Ms : List Nat} {tab : List TE} {k n : Nat} {t : TE} (ht : TabOK Cx k tab) (h : chkE Cx Ms tab n t = true) : TabOK Cx (k + n) (t :: tab) := ht.cons names_ok h
end Go.Proofs.YtepnbdacekkapaaGreatDoor.Ai
