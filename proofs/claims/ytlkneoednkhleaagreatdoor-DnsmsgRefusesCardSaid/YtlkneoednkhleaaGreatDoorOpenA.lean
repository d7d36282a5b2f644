/-
  Arrays of numbers as they are handed in.
-/
import Derived.Test.YtlkneoednkhleaaGreatDoorOpen
namespace Go.Proofs.YtlkneoednkhleaaGreatDoor
open Go Go.RowKit Go.Proofs.YtlkneoednkhleaaGreatDoorW.PrintWords Go.ChangeShapes Go.WideShapes
set_option linter.unusedVariables false
set_option linter.unusedSimpArgs false
set_option maxRecDepth 100000
set_option maxHeartbeats 1000000

/-- So many numbers in a row of cells. -/
def arrK (n : Nat) (k : IntKind) : Kd (List Int) where
  sz := n
  E := []
  K := fun _ xs cs => xs.length = n ∧ cs = nums k xs
  M := fun _ _ _ xs cs => xs.length = n ∧ cs = nums k xs
  K_len := by
    rintro w x cs ⟨h, rfl⟩
    rw [nums_length, h]
  K_one := by
    rintro w x cs ⟨h, rfl⟩ u hu
    obtain ⟨y, -, rfl⟩ := List.mem_map.1 hu
    rfl
  K_below := fun _ h => h
  K_of_M := fun h => h
  M_mono := fun _ h => h
  M_bound := fun h => h
  M_move := fun _ h => h
  M_lower := fun _ h => h
theorem nums_of (k : IntKind) (wf : Int → Prop) (cs : List Value) (h : ∀ u ∈ cs, ∃ v, u = .int k v ∧ wf v) : ∃ ys, cs = nums k ys ∧ ∀ y ∈ ys, wf y := by
  induction cs with
  | nil => exact ⟨[], rfl, fun y hy => by cases hy⟩
  | cons u cs ih =>
    obtain ⟨v, rfl, hv⟩ := h u (by simp)
    obtain ⟨ys, rfl, hys⟩ := ih fun u hu => h u (List.mem_cons_of_mem _ hu)
    refine ⟨v :: ys, rfl, fun y hy => ?_⟩
    rcases List.mem_cons.1 hy with rfl | hy
    · exact hv
    · exact hys y hy
theorem opens_arr {P : Program} {t e : TypeId} {n : Nat} {k : IntKind} (ht : P.underlying t = some (.array n e)) (he : P.underlying e = some (.int k)) (hc : P.cellsOf e = 1) (hct : P.cellsOf t = n) : Opens P t (arrK n k) (fun xs => ∀ x ∈ xs, (Lit.int k x).wf = true) := fun {H enc w base spare held fuel cs x} h => by
  obtain ⟨xs, m, -, -, hl, hn, hf⟩ := DataW.trod_array ht h
  rw [hct] at hl
  obtain ⟨ys, rfl, hys⟩ := nums_of k (fun x => (Lit.int k x).wf = true) cs fun u hu => by
    obtain ⟨i, hi⟩ := List.getElem?_of_mem hu
    have hi' : i < cs.length := (List.getElem?_eq_some_iff.1 hi).1
    have h1 := hf i (by omega)
    rw [hc, Nat.mul_one, List.drop_eq_getElem_cons hi', List.take_succ_cons, List.take_zero, List.getElem?_eq_getElem (by omega)] at h1
    obtain ⟨v, e1, -, hv⟩ := DataW.trod_int he h1
    have e2 : cs[i] = .int k v := by simpa using e1
    rw [List.getElem?_eq_getElem hi'] at hi
    exact ⟨v, (Option.some.inj hi).symm.trans e2, hv⟩
  rw [nums_length] at hl
  exact ⟨ys, ⟨hl, rfl⟩, hys⟩
end Go.Proofs.YtlkneoednkhleaaGreatDoor
