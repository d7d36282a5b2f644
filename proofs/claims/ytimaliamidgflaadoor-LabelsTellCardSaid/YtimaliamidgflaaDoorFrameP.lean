/-
  The listed variables of the rows that meet no errors: a world in which they lie; what they give a walk.
-/
import Derived.Test.YtimaliamidgflaaDoorFrame
import Derived.Test.YtimaliamidgflaaDoorEnvM
namespace Go.Proofs.YtimaliamidgflaaDoor
open Go Go.ChangeShapes Go.WideShapes Go.ChangeAt Go.RowKit
set_option linter.unusedVariables false
set_option linter.unusedSimpArgs false
set_option maxRecDepth 100000

theorem envP_of {W : World} (hs : W.ShapedOpen Tryd.prog) : EnvM W := ⟨maxLen_of_shape hs⟩
theorem laidP_split : (laidP.filter fun x => x.2.handleName?.isSome) = [] := by kernel_rfl
theorem laidP_rest : (laidP.filter fun x => x.2.handleName?.isNone) = laidP := by kernel_rfl
/-- A world in which the listed variables lie. -/
noncomputable def laidWorldP (os : Os) : World := (World.holding Tryd.prog os ⟨#[], #[], []⟩).layVars Tryd.prog laidP
theorem laidWorldP_os (os : Os) : (laidWorldP os).os = os := (World.layVars_os _ _ _).trans rfl
theorem laidWorldP_met (os : Os) (args : Array Value) : laidMetH Tryd.prog laidP ((laidWorldP os).forCall (fun _ _ => 0) ⟨#[], args, []⟩).memory := by
  refine laidMetH_of_parts ?_ (by rw [laidP_split]; rfl)
  rw [laidP_rest]
  have e1 : (laidP.filter fun x => (laidP.map (·.1)).contains x.1) = laidP := List.filter_eq_self.2 fun x hx => List.contains_iff_mem.2 (List.mem_map.2 ⟨x, hx, rfl⟩)
  have e2 : (laidP.filter fun x => !(laidP.map (·.1)).contains x.1) = [] := List.filter_eq_nil_iff.2 fun x hx => by rw [List.contains_iff_mem.2 (List.mem_map.2 ⟨x, hx, rfl⟩)]; simp
  have h : laidMet Tryd.prog laidP (laidWorldP os) := laidMet_layVars (w0 := World.holding Tryd.prog os ⟨#[], #[], []⟩) (laidP.map (·.1)) [] (by rw [e1]; rfl) (by rw [e1]; kernel_rfl) (by rw [e1]; kernel_rfl) (by rw [e2]; exact LaidIn.none)
  exact h.of_heap (by simp [World.memory, World.forCall, Input.heap])
end Go.Proofs.YtimaliamidgflaaDoor
