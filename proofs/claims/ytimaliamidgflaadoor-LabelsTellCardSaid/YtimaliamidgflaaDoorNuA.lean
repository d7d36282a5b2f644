/-
  The law NameUnder: a name is under each zone that it ends with, label by label, and under no longer one: the plain law.
-/
import Derived.Test.YtimaliamidgflaaDoorNameD
namespace Go.Proofs.YtimaliamidgflaaDoor
open Go.RowKit Go.Proofs.YtimaliamidgflaaDoorW.PrintWords
set_option linter.unusedVariables false
set_option linter.unusedSimpArgs false
set_option maxRecDepth 100000
set_option maxHeartbeats 1000000

/-- A zone, label by label. -/
def zoneF : L → List L → L
  | z, [] => z
  | z, x :: r => zoneF (if z = [] then x else z ++ 46 :: x) r
def tailJ (r : List L) : L := (r.map fun x => 46 :: x).flatten
theorem zoneF_ne (z : L) (r : List L) (h : z ≠ []) : zoneF z r = z ++ tailJ r := by
  induction r generalizing z with
  | nil => simp [zoneF, tailJ]
  | cons x r ih =>
    rw [zoneF, if_neg h, ih _ (by simp)]
    simp [tailJ]
/-- Labels, joined. -/
def joinL : List L → L
  | [] => []
  | x :: r => x ++ tailJ r
theorem join_split (s : L) : joinL (splitD s) = s := by
  induction s with
  | nil => rfl
  | cons c s ih =>
    unfold splitD
    split
    · rename_i h
      subst h
      have hne := splitD_ne s
      cases hs : splitD s with
      | nil => exact absurd hs hne
      | cons p ps => rw [hs] at ih; simp only [joinL] at ih ⊢; simp [tailJ] at ih ⊢; exact ih
    · cases hs : splitD s with
      | nil => exact absurd hs (splitD_ne s)
      | cons p ps => rw [hs] at ih; simp only [joinL] at ih ⊢; simp; exact ih
theorem joinL_app (p r : List L) (x : L) (h : p ≠ []) : joinL (p ++ x :: r) = joinL p ++ 46 :: (x ++ tailJ r) := by
  cases p with
  | nil => exact absurd rfl h
  | cons y p => simp [joinL, tailJ]
theorem under_of (s p z : L) (h : s = p ++ 46 :: z) : underL s z = true := by
  unfold underL
  have : Lib.hasSuffix s (46 :: z) = true := by
    subst h
    simp [Lib.hasSuffix]
  rw [this]; simp
theorem under_zone (s : L) (p r : List L) (h : splitD s = p ++ r) : underL s (zoneF [] r) = true := by
  induction r generalizing p with
  | nil => simp [zoneF, underL]
  | cons x r ih =>
    rw [zoneF, if_pos rfl]
    by_cases hx : x = []
    · subst hx
      exact ih (p ++ [[]]) (by rw [h]; simp)
    · rw [zoneF_ne _ _ hx]
      have hj := join_split s
      rw [h] at hj
      cases p with
      | nil => rw [List.nil_append] at hj; simp only [joinL] at hj; rw [hj]; simp [underL]
      | cons y p => rw [joinL_app _ _ _ (by simp)] at hj; exact under_of s _ _ hj.symm
theorem under_labels (s : L) (k : Nat) : underL s (zoneF [] ((labelsOf s).drop k)) = true := by
  unfold labelsOf
  split
  · simp [zoneF, underL]
  · exact under_zone s ((splitD s).take k) _ (List.take_append_drop k _).symm
theorem under_more (m s : L) : underL (m ++ 46 :: s) s = true := under_of _ m _ rfl
theorem under_longer (s : L) : underL s (120 :: s) = false := by
  have h1 : (s == 120 :: s) = false := by
    simp
  have h2 : Lib.hasSuffix s (46 :: 120 :: s) = false := by
    by_cases h : Lib.hasSuffix s (46 :: 120 :: s) = true
    · unfold Lib.hasSuffix at h
      have := (List.isSuffixOf_iff_suffix.1 h).length_le
      simp at this; omega
    · simpa using h
  simp [underL, h1, h2]
theorem under_shorter (s : L) (h : s ≠ []) : underL (120 :: s) s = false := by
  have h0 : s.isEmpty = false := by simpa using h
  have h1 : ((120 : UInt8) :: s == s) = false := by
    simp
  have h2 : Lib.hasSuffix (120 :: s) (46 :: s) = false := by
    by_cases h : Lib.hasSuffix (120 :: s) (46 :: s) = true
    · unfold Lib.hasSuffix at h
      have := (List.isSuffixOf_iff_suffix.1 h).eq_of_length (by simp)
      simp at this
    · simpa using h
  simp [underL, h0, h1, h2]
theorem zoneF_snoc (z : L) (r : List L) (x : L) : zoneF z (r ++ [x]) = if zoneF z r = [] then x else zoneF z r ++ 46 :: x := by
  induction r generalizing z with
  | nil => rfl
  | cons y r ih => simp only [List.cons_append, zoneF]; exact ih _
end Go.Proofs.YtimaliamidgflaaDoor
