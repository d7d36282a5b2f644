/-
  The law LabelsWild: a wild pattern stands for all that is under it, and not for it itself; a plain one for it alone: the plain law.
-/
import Derived.Test.YtimaliamidgflaaDoorLbD
import Derived.Test.YtimaliamidgflaaDoorNlA
namespace Go.Proofs.YtimaliamidgflaaDoor
open Go.RowKit Go.Proofs.YtimaliamidgflaaDoorW.PrintWords
set_option linter.unusedVariables false
set_option linter.unusedSimpArgs false
set_option maxRecDepth 100000
set_option maxHeartbeats 1000000

theorem splitD_app (a z : L) : splitD (a ++ 46 :: z) = splitD a ++ splitD z := by
  induction a with
  | nil => simp [splitD]
  | cons c a ih =>
    rw [List.cons_append, splitD, splitD]
    by_cases hc : c = 46
    · rw [if_pos hc, if_pos hc, ih]; rfl
    · rw [if_neg hc, if_neg hc, ih]
      cases h : splitD a with
      | nil => exact absurd h (splitD_ne a)
      | cons y ys => rfl
theorem path_ne (s : L) (h : s ≠ []) : pathOf s = (splitD s).reverse := by rw [pathOf, labelsOf, if_neg h]
theorem path_app (a z : L) (hz : z ≠ []) : pathOf (a ++ 46 :: z) = pathOf z ++ (splitD a).reverse := by
  rw [path_ne _ (by simp), path_ne _ hz, splitD_app, List.reverse_append]
theorem flat_single {α : Type} (n m : Nat) (c : Prop) [Decidable c] (x : List α) : ((List.range n).map fun j => if j = m ∧ c then x else []).reverse.flatten = if m < n ∧ c then x else [] := by
  induction n with
  | zero => simp
  | succ n ih =>
    rw [List.range_succ, List.map_append, List.reverse_append, List.flatten_append, ih]
    simp only [List.map_cons, List.map_nil, List.reverse_singleton, List.flatten_singleton]
    by_cases hc : c
    · by_cases h1 : n = m
      · subst h1
        simp [hc]
      · simp only [h1, false_and, if_false, List.nil_append, hc, and_true]
        by_cases h2 : m < n
        · rw [if_pos h2, if_pos (by omega)]
        · rw [if_neg h2, if_neg (by omega)]
    · simp [hc]
/-- A zone, wild and plain. -/
def zonePs (pz : List L) : List Pat := [⟨pz, true, 1⟩, ⟨pz, false, 2⟩]
theorem zone_ids (pz p : List L) (b : Bool) : idsAt (zonePs pz) p b = if pz = p then (if b then [1] else [2]) else [] := by
  by_cases h : pz = p
  · subst h
    cases b <;> simp [idsAt, zonePs]
  · simp [idsAt, zonePs, h]
theorem zone_match (pz q : List L) : matchF (zonePs pz) q = if q = pz then [2] else if pz.length < q.length ∧ q.take pz.length = pz then [1] else [] := by
  have hw : wildsF (zonePs pz) q q.length = (List.range q.length).map fun j => if j = pz.length ∧ q.take pz.length = pz then [1] else [] := by
    apply List.map_congr_left
    intro j hj
    have hj := List.mem_range.1 hj
    rw [zone_ids]
    by_cases h : pz = q.take j
    · have hl : j = pz.length := by rw [h, List.length_take]; omega
      subst hl
      have h2 : List.take pz.length q = pz := h.symm
      simp [h2]
    · rw [if_neg h, if_neg (fun ⟨h1, h2⟩ => h (by rw [h1]; exact h2.symm))]
  rw [matchF, hw, flat_single, zone_ids]
  by_cases h : q = pz
  · subst h
    simp
  · rw [if_neg h, if_neg (fun e => h e.symm), List.nil_append]
def xN : Nat → L → L
  | 0, z => z
  | k + 1, z => 120 :: 46 :: xN k z
theorem xN_ne (k : Nat) (z : L) (hz : z ≠ []) : xN k z ≠ [] := by cases k <;> simp [xN, hz]
theorem xN_len (k : Nat) (z : L) : (xN k z).length = 2 * k + z.length := by
  induction k with
  | zero => simp [xN]
  | succ k ih => simp [xN, ih]; omega
theorem xN_path (k : Nat) (z : L) (hz : z ≠ []) : pathOf (xN k z) = pathOf z ++ List.replicate k [120] := by
  induction k with
  | zero => simp [xN]
  | succ k ih =>
    rw [xN, show (120 :: 46 :: xN k z : L) = [120] ++ 46 :: xN k z from rfl, path_app _ _ (xN_ne k z hz), ih, List.replicate_succ', List.append_assoc]
    rfl
theorem wild_under (z : L) (hz : z ≠ []) (N : Nat) : matchF (zonePs (pathOf z)) (pathOf (xN N z)) = if N = 0 then [2] else [1] := by
  rw [zone_match, xN_path N z hz]
  cases N with
  | zero => simp
  | succ n =>
    rw [if_neg (fun e => by have := congrArg List.length e; simp at this), if_pos ⟨by simp, by simp⟩, if_neg (by omega)]
theorem wild_self (z : L) : matchF (zonePs (pathOf z)) (pathOf z) = [2] := by rw [zone_match, if_pos rfl]
theorem wild_longer (z : L) (hz : z ≠ []) : matchF (zonePs (pathOf z)) (pathOf (120 :: z)) = [] := by
  cases h : splitD z with
  | nil => exact absurd h (splitD_ne z)
  | cons y ys =>
    have h2 : splitD (120 :: z) = (120 :: y) :: ys := splitD_skip 120 z y ys (by decide) h
    rw [zone_match, path_ne _ hz, path_ne _ (by simp), h, h2]
    rw [if_neg (fun e => by simp at e), if_neg (by simp)]
theorem wild_more (m z : L) (hz : z ≠ []) : matchF (zonePs (pathOf z)) (pathOf (m ++ 46 :: z)) = [1] := by
  have hne := splitD_ne m
  have hl : 0 < (splitD m).length := List.length_pos_iff.2 hne
  rw [zone_match, path_app _ _ hz]
  rw [if_neg (fun e => by have := congrArg List.length e; simp at this; exact hne this), if_pos ⟨by simp; omega, by simp⟩]
end Go.Proofs.YtimaliamidgflaaDoor
