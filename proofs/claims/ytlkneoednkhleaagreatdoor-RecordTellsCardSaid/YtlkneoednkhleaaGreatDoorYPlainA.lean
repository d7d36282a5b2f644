/-
  Plain: a text split at its dots.
-/
import Derived.Lib.SplitLaws
import Derived.Lib.Join
namespace Go.Proofs.YtlkneoednkhleaaGreatDoor
open Go Go.Lib
set_option linter.unusedVariables false
set_option linter.unusedSimpArgs false

abbrev L := List UInt8
/-- A text, split at its dots. -/
def splitD : L → List L
  | [] => [[]]
  | c :: l => if c = 46 then [] :: splitD l else match splitD l with | [] => [[c]] | p :: ps => (c :: p) :: ps
theorem splitD_ne (l : L) : splitD l ≠ [] := by
  cases l with
  | nil => simp [splitD]
  | cons c l =>
    unfold splitD
    split
    · simp
    · split <;> simp
theorem index_cons (b : UInt8) (t : L) : index (b :: t) [46] = if b = 46 then 0 else if index t [46] = -1 then -1 else index t [46] + 1 := by
  rw [index]
  by_cases h : b = 46
  · subst h; simp [List.isPrefixOf]
  · have : ([46] : L).isPrefixOf (b :: t) = false := by simp [List.isPrefixOf]; exact fun e => h e.symm
    rw [this, if_neg h]
    simp
theorem split_dot (l : L) : split l [46] = splitD l := by
  induction l with
  | nil => rfl
  | cons b t ih =>
    by_cases hb : b = 46
    · subst hb
      have hi : index (46 :: t) [46] = ((0 : Nat) : Int) := by rw [index_cons]; simp
      have hc : count (46 :: t) [46] = 1 + count t [46] := by rw [count_hit (by simp) hi]; rfl
      unfold split
      rw [hc, Nat.add_comm 1]
      simp only [splitK, hi]
      simp only [splitD, if_true]
      rw [← ih]
      simp [split]
    · simp only [splitD, if_neg hb]
      rw [← ih]
      by_cases hm : index t [46] = -1
      · have hi : index (b :: t) [46] = -1 := by rw [index_cons, if_neg hb, if_pos hm]
        unfold split
        rw [count_miss hi, count_miss hm]
        simp [splitK]
      · obtain ⟨i, hi'⟩ : ∃ i : Nat, index t [46] = (i : Int) := ⟨(index t [46]).toNat, by have := index_ge t [46]; omega⟩
        have hi : index (b :: t) [46] = ((i + 1 : Nat) : Int) := by rw [index_cons, if_neg hb, if_neg hm, hi']; rfl
        unfold split
        rw [count_hit (by simp) hi, count_hit (by simp) hi', Nat.one_add, Nat.one_add]
        simp only [Nat.succ_eq_add_one]
        simp only [splitK, hi, hi']
        have e1 : ¬ ((((i + 1 : Nat) : Int)) == -1) = true := by simp; omega
        have e2 : ¬ (((i : Nat) : Int) == -1) = true := by simp
        rw [if_neg e1, if_neg e2]
        simp

/-- A name's labels. -/
def labelsOf (s : L) : List L := if s = [] then [] else splitD s
/-- How many bytes labels have as they are written. -/
def sizeOf_ (l : List L) : Nat := 1 + (l.map fun s => 1 + s.length).sum
def mkB (l : L) : ByteArray := ⟨l.toArray⟩
theorem mkB_toList (l : L) : (mkB l).data.toList = l := rfl
theorem mkB_size (l : L) : (mkB l).size = l.length := rfl
def dotB : ByteArray := ⟨#[46]⟩
theorem splitB_dot (s : ByteArray) : splitB dotB 0 (countB s dotB) s = (splitD s.data.toList).map mkB := by
  have h := splitB_data dotB 0 (countB s dotB) s
  have h2 : splitK dotB.data.toList 0 (countB s dotB) s.data.toList = splitD s.data.toList := split_dot s.data.toList
  rw [h2] at h
  rw [← h, List.map_map]
  conv => lhs; rw [← List.map_id (splitB dotB 0 (countB s dotB) s)]
  rfl
theorem splitD_count (s : ByteArray) : countB s dotB + 1 = (splitD s.data.toList).length := by
  have h : (splitD s.data.toList).length = (splitB dotB 0 (countB s dotB) s).length := by rw [splitB_dot, List.length_map]
  rw [h]
  exact (splitB_all dotB (Nat.le_refl 1) 0 _ s rfl).symm
end Go.Proofs.YtlkneoednkhleaaGreatDoor
