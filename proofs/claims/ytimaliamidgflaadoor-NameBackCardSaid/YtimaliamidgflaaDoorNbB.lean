/-
  The law NameBack: letters made capitals one by one: the plain law of the loop.
-/
import Derived.Test.YtimaliamidgflaaDoorNbA
namespace Go.Proofs.YtimaliamidgflaaDoor
open Go.RowKit Go.Proofs.YtimaliamidgflaaDoorW.PrintWords
set_option maxRecDepth 100000
set_option maxHeartbeats 1000000

theorem cap_step (us : List Bool) (w : List Int) (j : Nat) (hj : j < w.length) : capL (us.take (j + 1)) w = (capL (us.take j) w).set j (capB (us.getD j false) (w.getD j 0)) := by
  induction us generalizing w j with
  | nil =>
    simp only [List.take_nil, capL_nil]
    have : capB (([] : List Bool).getD j false) (w.getD j 0) = w.getD j 0 := by simp [capB]
    rw [this]
    have h : w.getD j 0 = w[j] := by simp [List.getD_eq_getElem?_getD, hj]
    rw [h, List.set_getElem_self]
  | cons u us ih =>
    cases w with
    | nil => simp at hj
    | cons c w =>
      cases j with
      | zero => simp [capL, capL_nil]
      | succ j =>
        simp only [List.take_succ_cons, capL, List.set_cons_succ]
        rw [ih w j (by simpa using hj)]
        simp
theorem cap_all (us : List Bool) (w : List Int) : capL (us.take w.length) w = capL us w := by
  induction us generalizing w with
  | nil => simp
  | cons u us ih =>
    cases w with
    | nil => simp [capL]
    | cons c w => simp [capL, ih]
theorem cap_get (us : List Bool) (w : List Int) (j : Nat) : (capL (us.take j) w).getD j 0 = w.getD j 0 := by
  induction us generalizing w j with
  | nil => simp [capL_nil]
  | cons u us ih =>
    cases w with
    | nil => simp [capL]
    | cons c w =>
      cases j with
      | zero => simp [capL_nil]
      | succ j =>
        simp only [List.take_succ_cons, capL]
        have := ih w j
        simpa [List.getD_eq_getElem?_getD] using this
theorem cap_byts (us : List Bool) (w : List Int) (h : Byts w) : Byts (capL us w) := by
  induction us generalizing w with
  | nil => rw [capL_nil]; exact h
  | cons u us ih =>
    cases w with
    | nil => intro x hx; simp [capL] at hx
    | cons c w =>
      have h1 := h c (by simp)
      have h2 : Byts w := fun x hx => h x (by simp [hx])
      intro x hx
      simp only [capL, List.mem_cons] at hx
      rcases hx with rfl | hx
      · unfold capB; split <;> omega
      · exact ih w h2 x hx
end Go.Proofs.YtimaliamidgflaaDoor
