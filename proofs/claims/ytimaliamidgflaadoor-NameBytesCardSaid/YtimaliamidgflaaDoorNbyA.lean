/-
  The law NameBytes: which bytes may stand in a label: the plain law.
-/
import Derived.Test.YtimaliamidgflaaDoorNbA
namespace Go.Proofs.YtimaliamidgflaaDoor
open Go.RowKit Go.Proofs.YtimaliamidgflaaDoorW.PrintWords
set_option maxRecDepth 100000
set_option maxHeartbeats 1000000

theorem right_byte : ∀ c : Fin 256, rightL [UInt8.ofNat c] = !badB ((c : Nat) : Int) := by decide +kernel
theorem read_byte : ∀ c : Fin 256, readF ((0 : Int).toNat * 300 + 301) [1, ((c : Nat) : Int), 0] 0 0 (-1) [] = if badB (lowB ((c : Nat) : Int)) = true then ([], 0, .fault 0 12) else ([UInt8.ofNat (lowB ((c : Nat) : Int)).toNat], 3, .none) := by decide +kernel
theorem splitD_head (c : UInt8) (p : L) (hc : c ≠ 46) : ∃ y ys, splitD p = y :: ys ∧ splitD (c :: p) = (c :: y) :: ys := by
  cases h : splitD p with
  | nil => exact absurd h (splitD_ne p)
  | cons y ys => exact ⟨y, ys, rfl, splitD_skip c p y ys hc h⟩
/-- A right name with an 'a' ahead of it is right. -/
theorem right_ahead (p : L) (hp : rightL p = true) (hl : p.length ≤ 60) : rightL (97 :: p) = true := by
  obtain ⟨-, hall⟩ := right_labels p hp
  obtain ⟨y, ys, h1, h2⟩ := splitD_head 97 p (by decide)
  have hyl : y.length ≤ 60 := by
    have := splitD_sz p
    rw [h1] at this
    simp [sizeOf_] at this
    omega
  have hy : (y.map nB).any badB = false ∧ ∀ z ∈ ys, labelB (mkB z) = true := by
    by_cases h0 : p = []
    · subst h0
      simp [splitD] at h1
      obtain ⟨rfl, rfl⟩ := h1
      exact ⟨rfl, fun z hz => by cases hz⟩
    · have he : labelsOf p = y :: ys := by rw [labelsOf, if_neg h0, h1]
      rw [he] at hall
      have := hall y (by simp)
      rw [label_mk] at this
      simp only [Bool.and_eq_true, Bool.not_eq_true'] at this
      exact ⟨this.2, fun z hz => hall z (by simp [hz])⟩
  have hlab : labelB (mkB (97 :: y)) = true := by
    rw [label_mk, List.map_cons, List.any_cons, hy.1]
    have : badB (nB 97) = false := by decide
    rw [this]
    simp; omega
  unfold rightL labelsOf
  rw [if_neg (by simp), splitD_sz, h2, List.any_cons, hlab]
  have : ys.any (fun x => !labelB (mkB x)) = false := by
    rw [List.any_eq_false]
    intro z hz
    simp [hy.2 z hz]
  rw [this]
  simp; omega
theorem not_right (s : L) (h0 : s ≠ []) (h : [] ∈ splitD s) : rightL s = false := by
  unfold rightL labelsOf
  rw [if_neg h0]
  have : (splitD s).any (fun x => !labelB (mkB x)) = true := by
    rw [List.any_eq_true]
    exact ⟨[], h, by decide⟩
  rw [this]; simp
theorem dot_behind (s : L) : rightL (s ++ [46]) = false := not_right _ (by simp) (by rw [splitD_dot]; simp)
theorem dot_ahead (s : L) : rightL (46 :: s) = false := not_right _ (by simp) (by simp [splitD])
theorem split_two (s t : L) : ∃ a b, splitD (s ++ 46 :: t) = a ++ b ∧ b = splitD t := by
  induction s with
  | nil => exact ⟨[[]], splitD t, by simp [splitD], rfl⟩
  | cons c s ih =>
    obtain ⟨a, b, h, hb⟩ := ih
    rw [List.cons_append, splitD]
    by_cases hc : c = 46
    · rw [if_pos hc, h]; exact ⟨[] :: a, b, rfl, hb⟩
    · rw [if_neg hc, h]
      cases a with
      | nil =>
        have h2 := congrArg List.length h
        have h3 : ∀ s : L, (splitD t).length < (splitD (s ++ 46 :: t)).length := by
          intro s
          induction s with
          | nil => simp [splitD]
          | cons d s ih =>
            rw [List.cons_append, splitD]
            split
            · simp; omega
            · split
              · rename_i e; rw [e] at ih; simp at ih
              · rename_i e; rw [e] at ih; simpa using ih
        have := h3 s
        subst hb
        simp at h2
        omega
      | cons y a => exact ⟨(c :: y) :: a, b, rfl, hb⟩
theorem dots_between (s t : L) : rightL (s ++ 46 :: 46 :: t) = false := by
  obtain ⟨a, b, h, hb⟩ := split_two s (46 :: t)
  refine not_right _ (by simp) ?_
  rw [h, hb]
  simp [splitD]
end Go.Proofs.YtimaliamidgflaaDoor
