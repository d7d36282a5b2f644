/-
  Names that a law makes out of any text: they are right: the plain law.
-/
import Derived.Test.YtimaliamidgflaaDoorNameD
namespace Go.Proofs.YtimaliamidgflaaDoor
open Go.RowKit Go.Proofs.YtimaliamidgflaaDoorW.PrintWords
set_option linter.unusedVariables false
set_option linter.unusedSimpArgs false
set_option maxRecDepth 100000
set_option maxHeartbeats 1000000

/-- A byte, as a number. -/
def nB (b : UInt8) : Int := (b.toNat : Int)
/-- Is a byte taken? -/
def keepU (o : L) (b : UInt8) : Bool := if b = 46 then !o.isEmpty && o.getLast? != some 46 else !badB (nB b)
def playF : L → L → L
  | [], o => o
  | b :: r, o => if o.length < 60 then playF r (if keepU o b = true then o ++ [b] else o) else o
def trimO (o : L) : L := if o.getLast? = some 46 then o.dropLast else o

theorem splitD_dot (o : L) : splitD (o ++ [46]) = splitD o ++ [[]] := by
  induction o with
  | nil => rfl
  | cons c o ih =>
    rw [List.cons_append]
    unfold splitD
    by_cases h : c = 46
    · rw [if_pos h, if_pos h, ih]; rfl
    · rw [if_neg h, if_neg h, ih]
      cases hs : splitD o with
      | nil => exact absurd hs (splitD_ne o)
      | cons p ps => rfl
theorem splitD_add (o : L) (b : UInt8) (hb : b ≠ 46) (ls : List L) (x : L) (h : splitD o = ls ++ [x]) : splitD (o ++ [b]) = ls ++ [x ++ [b]] := by
  induction o generalizing ls x with
  | nil =>
    cases ls with
    | nil => simp [splitD] at h; subst h; simp [splitD, hb]
    | cons y ls => simp [splitD] at h
  | cons c o ih =>
    rw [List.cons_append]
    unfold splitD at h ⊢
    by_cases hc : c = 46
    · rw [if_pos hc] at h ⊢
      cases ls with
      | nil => simp at h; exact absurd h.2 (splitD_ne o)
      | cons y ls =>
        simp at h
        rw [ih ls x h.2, ← h.1]; rfl
    · rw [if_neg hc] at h ⊢
      cases hs : splitD o with
      | nil => exact absurd hs (splitD_ne o)
      | cons p ps =>
        rw [hs] at h
        cases ls with
        | nil =>
          simp at h
          obtain ⟨h1, h2⟩ := h
          subst h2
          rw [ih [] p (by rw [hs]; rfl)]
          simp [← h1]
        | cons y ls =>
          simp at h
          rw [ih (p :: ls) x (by rw [hs, h.2]; rfl)]
          simp [← h.1]
theorem last_le (o : L) (ls : List L) (x : L) (h : splitD o = ls ++ [x]) : x.length ≤ o.length := by
  have h1 := splitD_sz o
  rw [h] at h1
  simp [sizeOf_] at h1
  omega
theorem label_mk (x : L) : labelB (mkB x) = (decide (1 ≤ x.length) && decide (x.length ≤ 63) && !((x.map nB).any badB)) := by
  unfold labelB
  rw [mkB_size]
  rfl
structure GoodO (o : L) : Prop where
  len : o.length ≤ 60
  ex : ∃ ls x, splitD o = ls ++ [x] ∧ (∀ y ∈ ls, labelB (mkB y) = true) ∧ (x.map nB).any badB = false ∧ (x = [] → o = [] ∨ o.getLast? = some 46)
theorem good_nil : GoodO [] := ⟨by decide, [], [], rfl, (by simp), rfl, fun _ => .inl rfl⟩
theorem label_ok (x : L) (h0 : x ≠ []) (h1 : x.length ≤ 60) (h2 : (x.map nB).any badB = false) : labelB (mkB x) = true := by
  rw [label_mk, h2]
  have : 1 ≤ x.length := by cases x with | nil => exact absurd rfl h0 | cons _ _ => simp
  simp; omega
theorem good_step (o : L) (b : UInt8) (h : GoodO o) (hl : o.length < 60) (hk : keepU o b = true) : GoodO (o ++ [b]) := by
  obtain ⟨-, ls, x, h1, h2, h3, h4⟩ := h
  have hx := last_le o ls x h1
  refine ⟨by simp; omega, ?_⟩
  unfold keepU at hk
  by_cases hb : b = 46
  · subst hb
    rw [if_pos rfl] at hk
    have hx0 : x ≠ [] := by
      intro e
      rcases h4 e with e | e
      · subst e; simp at hk
      · rw [e] at hk; simp at hk
    refine ⟨ls ++ [x], [], by rw [splitD_dot, h1], ?_, rfl, fun _ => .inr (by simp)⟩
    intro y hy
    rcases List.mem_append.1 hy with hy | hy
    · exact h2 y hy
    · rw [List.mem_singleton.1 hy]; exact label_ok x hx0 (by omega) h3
  · rw [if_neg hb] at hk
    refine ⟨ls, x ++ [b], splitD_add o b hb ls x h1, h2, ?_, fun e => by simp at e⟩
    rw [List.map_append, List.any_append, h3]
    simpa using hk
theorem play_good (s o : L) (h : GoodO o) : GoodO (playF s o) := by
  induction s generalizing o with
  | nil => exact h
  | cons b r ih =>
    rw [playF]
    split
    · rename_i hl
      split
      · rename_i hk; exact ih _ (good_step o b h hl hk)
      · exact ih _ h
    · exact h
theorem right_of (o : L) (hl : o.length ≤ 60) (h : o = [] ∨ ∀ y ∈ splitD o, labelB (mkB y) = true) : rightL o = true := by
  unfold rightL labelsOf
  by_cases h0 : o = []
  · rw [if_pos h0]; decide
  · rw [if_neg h0]
    rcases h with h | h
    · exact absurd h h0
    · rw [splitD_sz]
      have : (splitD o).any (fun x => !labelB (mkB x)) = false := by
        rw [List.any_eq_false]
        intro y hy
        simp [h y hy]
      rw [this]; simp; omega
theorem trim_right (o : L) (h : GoodO o) : rightL (trimO o) = true ∧ (trimO o).length ≤ 60 := by
  obtain ⟨hl, ls, x, h1, h2, h3, h4⟩ := h
  have hx := last_le o ls x h1
  unfold trimO
  split
  · rename_i hd
    obtain ⟨o', ho⟩ : ∃ o', o = o' ++ [46] := by
      rw [List.getLast?_eq_some_iff] at hd
      exact hd
    subst ho
    rw [List.dropLast_concat]
    simp at hl
    refine ⟨right_of o' (by omega) (.inr ?_), by omega⟩
    rw [splitD_dot] at h1
    have := (List.append_inj' h1 rfl).1
    rw [this]; exact h2
  · rename_i hd
    refine ⟨right_of o hl ?_, hl⟩
    by_cases h0 : o = []
    · exact .inl h0
    · right
      have hx0 : x ≠ [] := by
        intro e
        rcases h4 e with e | e
        · exact h0 e
        · exact hd e
      rw [h1]
      intro y hy
      rcases List.mem_append.1 hy with hy | hy
      · exact h2 y hy
      · rw [List.mem_singleton.1 hy]; exact label_ok x hx0 (by omega) h3
/-- The name that a law makes of a text. -/
def playN (s : L) : L := trimO (playF s [])
theorem playN_right (s : L) : rightL (playN s) = true ∧ (playN s).length ≤ 60 := trim_right _ (play_good s [] good_nil)
end Go.Proofs.YtimaliamidgflaaDoor
