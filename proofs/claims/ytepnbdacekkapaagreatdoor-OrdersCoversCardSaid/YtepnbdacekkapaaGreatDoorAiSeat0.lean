/- The seat's program, for runs that read no package variable and no function from outside. Own work of this seat. -/
import Derived.Test.YtepnbdacekkapaaGreatDoorAiTypes
import Derived.Test.YtepnbdacekkapaaGreatDoorAiEv
import Derived.KernelRfl
namespace Go.Proofs.YtepnbdacekkapaaGreatDoor.Ai
open Go
set_option maxRecDepth 100000
/-- For the runs by the kernel. -/
noncomputable def Cb : Ctx := { P := Tryz.prog, glob := fun _ => .dead, X := fun _ _ _ => False, I := tabI Tryz.prog, hI := tabI_eq _, J := tabJ Tryz.prog, hJ := tabJ_eq _ }
noncomputable def Kx : CB := ⟨Tryz.prog, fun _ => .dead, tabI Tryz.prog, tabJ Tryz.prog⟩
/-- For the symbolic runs: what has been run is known. -/
noncomputable def Cx : Ctx := { Cb with X := fun f args r => CallS Cb f args [] r [] }
noncomputable def Sx0 : Sx := ⟨Cx, tyAt tyL, tyL_TI tyL_ok⟩
theorem Cb_mixed : Cb.P.follows .mixedOrders = true := by kernel_rfl
theorem Cb_Y : YSound Cb := fun _ _ _ _ _ h => h.elim
theorem X_sound : Sound Cx (CallN Cx 0) := outside_sound (C := Cb) fun _ _ _ h => h
theorem globs_dead {W : World} : ∀ g, Cx.glob g = .dead ∨ PV W (fun k => k < W.heap.size) (Cx.glob g) (.pointer (some ⟨g, 0, none⟩)) := fun _ => .inl rfl
theorem names_all : (Cb.P.funcs.toList.all fun fn => fn.body.isNone || !(fn.name == "runtime.NumGoroutine")) = true := by kernel_rfl
theorem names_ok : NamesOK Cb.P := by
  intro g fn hg hb he
  have h1 : fn ∈ Cx.P.funcs.toList := by rw [← Array.getElem?_toList] at hg; exact List.mem_of_getElem? hg
  have h2 := List.all_eq_true.1 names_all fn h1
  cases hbo : fn.body with
  | none => rw [hbo] at hb; cases hb
  | some c => rw [hbo, he] at h2; simp at h2
theorem kx_eq : cb Cb = Kx := rfl
/-- A closed call, run by the kernel. -/
theorem closedT {Ms : List Nat} {tab : List TE} (ht : TabOK Cb tab) {n : Nat} {g : FuncId} {b : Bool} (h : runE Kx Ms tab n g [] b = true) : CallF Cx g [] [] (.bool b) [] := ⟨0, rfl, rfl, runE_sound Cb_mixed names_ok Cb_Y ht (by rw [kx_eq]; exact h)⟩
theorem closed {Ms : List Nat} {n : Nat} {g : FuncId} {b : Bool} (h : runE Kx Ms [] n g [] b = true) : CallF Cx g [] [] (.bool b) [] := closedT .nil h
theorem closedV {Ms : List Nat} {n : Nat} {g : FuncId} {r : AVal} (h : runV Kx Ms [] n g r = true) : CallF Cx g [] [] r [] := ⟨0, rfl, rfl, runV_sound Cb_mixed names_ok Cb_Y .nil (by rw [kx_eq]; exact h)⟩
theorem tabCons {Ms : List Nat} {tab : List TE} {n : Nat} {t : TE} (ht : TabOK Cb tab) (h : chkE Kx Ms tab n t = true) : TabOK Cb (t :: tab) := ht.cons Cb_mixed names_ok Cb_Y (by rw [kx_eq]; exact h)
end Go.Proofs.YtepnbdacekkapaaGreatDoor.Ai
