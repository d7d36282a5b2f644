/-
  Several texts of this seat in one: LwA, LeA.
-/
import Derived.Test.YtimaliamidgflaaDoorGl
import Derived.Test.YtimaliamidgflaaDoorNlA
import Derived.Test.YtimaliamidgflaaDoorNuA
namespace Go.Proofs.YtimaliamidgflaaDoor
open Go.RowKit Go.Proofs.YtimaliamidgflaaDoorW.PrintWords
set_option linter.unusedVariables false
set_option linter.unusedSimpArgs false
set_option maxRecDepth 100000
set_option maxHeartbeats 1000000

theorem splitD_app (a z : L) : splitD (a ++ 46 :: z) = splitD a ++ splitD z := by
  induction a with
  | nil => simp [splitD]
  | cons c a ih =>
    rw [List.cons_append, splitD, splitD]
    by_cases hc : c = 46
    · rw [if_pos hc, if_pos hc, ih]; rfl
    · rw [if_neg hc, if_neg hc, ih]
      cases h : splitD a with
      | nil => exact absurd h (splitD_ne a)
      | cons y ys => rfl
theorem path_ne (s : L) (h : s ≠ []) : pathOf s = (splitD s).reverse := by rw [pathOf, labelsOf, if_neg h]
theorem path_app (a z : L) (hz : z ≠ []) : pathOf (a ++ 46 :: z) = pathOf z ++ (splitD a).reverse := by
  rw [path_ne _ (by simp), path_ne _ hz, splitD_app, List.reverse_append]
theorem flat_single {α : Type} (n m : Nat) (c : Prop) [Decidable c] (x : List α) : ((List.range n).map fun j => if j = m ∧ c then x else []).reverse.flatten = if m < n ∧ c then x else [] := by
  induction n with
  | zero => simp
  | succ n ih =>
    rw [List.range_succ, List.map_append, List.reverse_append, List.flatten_append, ih]
    simp only [List.map_cons, List.map_nil, List.reverse_singleton, List.flatten_singleton]
    by_cases hc : c
    · by_cases h1 : n = m
      · subst h1
        simp [hc]
      · simp only [h1, false_and, if_false, List.nil_append, hc, and_true]
        by_cases h2 : m < n
        · rw [if_pos h2, if_pos (by omega)]
        · rw [if_neg h2, if_neg (by omega)]
    · simp [hc]
/-- A zone, wild and plain. -/
def zonePs (pz : List L) : List Pat := [⟨pz, true, 1⟩, ⟨pz, false, 2⟩]
theorem zone_ids (pz p : List L) (b : Bool) : idsAt (zonePs pz) p b = if pz = p then (if b then [1] else [2]) else [] := by
  by_cases h : pz = p
  · subst h
    cases b <;> simp [idsAt, zonePs]
  · simp [idsAt, zonePs, h]
theorem zone_match (pz q : List L) : matchF (zonePs pz) q = if q = pz then [2] else if pz.length < q.length ∧ q.take pz.length = pz then [1] else [] := by
  have hw : wildsF (zonePs pz) q q.length = (List.range q.length).map fun j => if j = pz.length ∧ q.take pz.length = pz then [1] else [] := by
    apply List.map_congr_left
    intro j hj
    have hj := List.mem_range.1 hj
    rw [zone_ids]
    by_cases h : pz = q.take j
    · have hl : j = pz.length := by rw [h, List.length_take]; omega
      subst hl
      have h2 : List.take pz.length q = pz := h.symm
      simp [h2]
    · rw [if_neg h, if_neg (fun ⟨h1, h2⟩ => h (by rw [h1]; exact h2.symm))]
  rw [matchF, hw, flat_single, zone_ids]
  by_cases h : q = pz
  · subst h
    simp
  · rw [if_neg h, if_neg (fun e => h e.symm), List.nil_append]
def xN : Nat → L → L
  | 0, z => z
  | k + 1, z => 120 :: 46 :: xN k z
theorem xN_ne (k : Nat) (z : L) (hz : z ≠ []) : xN k z ≠ [] := by cases k <;> simp [xN, hz]
theorem xN_len (k : Nat) (z : L) : (xN k z).length = 2 * k + z.length := by
  induction k with
  | zero => simp [xN]
  | succ k ih => simp [xN, ih]; omega
theorem xN_path (k : Nat) (z : L) (hz : z ≠ []) : pathOf (xN k z) = pathOf z ++ List.replicate k [120] := by
  induction k with
  | zero => simp [xN]
  | succ k ih =>
    rw [xN, show (120 :: 46 :: xN k z : L) = [120] ++ 46 :: xN k z from rfl, path_app _ _ (xN_ne k z hz), ih, List.replicate_succ', List.append_assoc]
    rfl
theorem wild_under (z : L) (hz : z ≠ []) (N : Nat) : matchF (zonePs (pathOf z)) (pathOf (xN N z)) = if N = 0 then [2] else [1] := by
  rw [zone_match, xN_path N z hz]
  cases N with
  | zero => simp
  | succ n =>
    rw [if_neg (fun e => by have := congrArg List.length e; simp at this), if_pos ⟨by simp, by simp⟩, if_neg (by omega)]
theorem wild_self (z : L) : matchF (zonePs (pathOf z)) (pathOf z) = [2] := by rw [zone_match, if_pos rfl]
theorem wild_longer (z : L) (hz : z ≠ []) : matchF (zonePs (pathOf z)) (pathOf (120 :: z)) = [] := by
  cases h : splitD z with
  | nil => exact absurd h (splitD_ne z)
  | cons y ys =>
    have h2 : splitD (120 :: z) = (120 :: y) :: ys := splitD_skip 120 z y ys (by decide) h
    rw [zone_match, path_ne _ hz, path_ne _ (by simp), h, h2]
    rw [if_neg (fun e => by simp at e), if_neg (by simp)]
theorem wild_more (m z : L) (hz : z ≠ []) : matchF (zonePs (pathOf z)) (pathOf (m ++ 46 :: z)) = [1] := by
  have hne := splitD_ne m
  have hl : 0 < (splitD m).length := List.length_pos_iff.2 hne
  rw [zone_match, path_app _ _ hz]
  rw [if_neg (fun e => by have := congrArg List.length e; simp at this; exact hne this), if_pos ⟨by simp; omega, by simp⟩]
end Go.Proofs.YtimaliamidgflaaDoor

namespace Go.Proofs.YtimaliamidgflaaDoor
open Go.RowKit Go.Proofs.YtimaliamidgflaaDoorW.PrintWords
set_option linter.unusedVariables false
set_option linter.unusedSimpArgs false
set_option maxRecDepth 100000
set_option maxHeartbeats 1000000

theorem labels_inj (s z : L) (h : labelsOf s = labelsOf z) : s = z := by
  unfold labelsOf at h
  by_cases hs : s = []
  · by_cases hz : z = []
    · rw [hs, hz]
    · rw [if_pos hs, if_neg hz] at h
      exact absurd h.symm (splitD_ne z)
  · by_cases hz : z = []
    · rw [if_neg hs, if_pos hz] at h
      exact absurd h (splitD_ne s)
    · rw [if_neg hs, if_neg hz] at h
      rw [← join_split s, h, join_split]
theorem path_inj (s z : L) : pathOf s = pathOf z ↔ s = z :=
  ⟨fun h => labels_inj s z (by have := congrArg List.reverse h; simpa [pathOf] using this), fun h => by rw [h]⟩
theorem path_nil (s : L) : pathOf s = [] ↔ s = [] := by
  rw [show ([] : List L) = pathOf [] from rfl, path_inj]
/-- Under, and not the same. -/
def Low (s z : L) : Prop := (pathOf z).length < (pathOf s).length ∧ (pathOf s).take (pathOf z).length = pathOf z
theorem low_nil (s : L) : Low s [] ↔ s ≠ [] := by
  unfold Low
  constructor
  · rintro ⟨h, -⟩ e
    subst e
    exact absurd h (by decide)
  · intro h
    refine ⟨?_, rfl⟩
    show 0 < (pathOf s).length
    exact List.length_pos_iff.2 (fun e => h ((path_nil s).1 e))
theorem low_cat (s z : L) (hz : z ≠ []) : Low s z ↔ ∃ m, s = m ++ 46 :: z := by
  unfold Low
  constructor
  · rintro ⟨h1, h2⟩
    have hs : s ≠ [] := fun e => by subst e; exact absurd h1 (by rw [show pathOf [] = [] from rfl]; simp)
    obtain ⟨r, hr⟩ : ∃ r, (pathOf s).drop (pathOf z).length = r := ⟨_, rfl⟩
    have h3 : pathOf s = pathOf z ++ r := by
      have h := List.take_append_drop (pathOf z).length (pathOf s)
      rw [h2, hr] at h
      exact h.symm
    have h4 := congrArg List.reverse h3
    rw [List.reverse_append, path_ne s hs, path_ne z hz, List.reverse_reverse, List.reverse_reverse] at h4
    have hrn : r.reverse ≠ [] := fun e => by
      have hl := congrArg List.length h3
      have := congrArg List.length e
      simp at this
      subst this
      simp at hl
      omega
    refine ⟨joinL r.reverse, ?_⟩
    have h5 := join_split s
    rw [h4] at h5
    cases hd : splitD z with
    | nil => exact absurd hd (splitD_ne z)
    | cons x t =>
      have h6 := join_split z
      rw [hd] at h5 h6
      rw [joinL_app _ _ _ hrn] at h5
      rw [← h5, ← h6]
      rfl
  · rintro ⟨m, rfl⟩
    rw [path_app _ _ hz]
    have hl : 0 < (splitD m).length := List.length_pos_iff.2 (splitD_ne m)
    exact ⟨by simp; omega, by simp⟩
theorem under_low (s z : L) (h : s ≠ z) : underL s z = true ↔ Low s z := by
  by_cases hz : z = []
  · subst hz
    rw [low_nil]
    exact ⟨fun _ => h, fun _ => by simp [underL]⟩
  · rw [low_cat s z hz]
    constructor
    · intro hu
      unfold underL at hu
      have h1 : z.isEmpty = false := by simpa using hz
      have h2 : (s == z) = false := by simpa using h
      rw [h1, h2, Bool.false_or, Bool.false_or] at hu
      unfold Lib.hasSuffix at hu
      obtain ⟨m, hm⟩ := List.isSuffixOf_iff_suffix.1 hu
      exact ⟨m, hm.symm⟩
    · rintro ⟨m, rfl⟩
      exact under_of _ m z rfl
theorem low_take (s z : L) (j : Nat) (hj : j < (pathOf s).length) : pathOf z = (pathOf s).take j ↔ Low s z ∧ (pathOf z).length = j := by
  unfold Low
  constructor
  · intro h
    have hl := congrArg List.length h
    rw [List.length_take, Nat.min_eq_left (by omega)] at hl
    exact ⟨⟨by omega, by rw [hl]; exact h.symm⟩, hl⟩
  · rintro ⟨⟨h1, h2⟩, rfl⟩
    exact h2.symm

/-! one pattern more -/
theorem ids_more (ps : List Pat) (x : Pat) (p : List L) (b : Bool) : idsAt (ps ++ [x]) p b = idsAt ps p b ++ if x.path = p ∧ x.wild = b then [x.id] else [] := by
  by_cases h : x.path = p ∧ x.wild = b
  · obtain ⟨h1, h2⟩ := h
    rw [if_pos ⟨h1, h2⟩, ← idsAt_same, ← h1, ← h2]
  · rw [if_neg h, List.append_nil, idsAt_other _ _ _ _ h]
theorem ids_filter (ps : List Pat) (x : Pat) (p : List L) (b : Bool) (h : ∀ y ∈ ps, y.id ≠ x.id) : (idsAt (ps ++ [x]) p b).filter (fun i => !(i == x.id)) = idsAt ps p b := by
  rw [ids_more, List.filter_append]
  have h1 : (idsAt ps p b).filter (fun i => !(i == x.id)) = idsAt ps p b := by
    rw [List.filter_eq_self]
    intro i hi
    rw [idsAt, List.mem_map] at hi
    obtain ⟨y, hy, rfl⟩ := hi
    have := h y (List.mem_filter.1 hy).1
    simpa using this
  rw [h1]
  split <;> simp
theorem match_filter (ps : List Pat) (x : Pat) (q : List L) (h : ∀ y ∈ ps, y.id ≠ x.id) : (matchF (ps ++ [x]) q).filter (fun i => !(i == x.id)) = matchF ps q := by
  rw [matchF, matchF, List.filter_append, ids_filter ps x q false h, List.filter_flatten]
  congr 2
  have : wildsF ps q q.length = (wildsF (ps ++ [x]) q q.length).map (List.filter fun i => !(i == x.id)) := by
    rw [wildsF, wildsF, List.map_map]
    apply List.map_congr_left
    intro j _
    exact (ids_filter ps x _ true h).symm
  rw [this, List.map_reverse]
theorem flat_len (n : Nat) (f g : Nat → List Int) (c : Nat → Nat) (h : ∀ j, j < n → (f j).length = (g j).length + c j) : (((List.range n).map f).reverse.flatten).length = (((List.range n).map g).reverse.flatten).length + ((List.range n).map c).sum := by
  induction n with
  | zero => rfl
  | succ n ih =>
    have ih := ih fun j hj => h j (by omega)
    have hn := h n (by omega)
    simp only [List.range_succ, List.map_append, List.reverse_append, List.flatten_append, List.length_append, List.map_cons, List.map_nil, List.reverse_singleton, List.flatten_singleton, List.sum_append, List.sum_cons, List.sum_nil] at ih ⊢
    omega
theorem one_sum (n m : Nat) (c : Prop) [Decidable c] : ((List.range n).map fun j => if j = m ∧ c then 1 else 0).sum = if m < n ∧ c then 1 else 0 := by
  induction n with
  | zero => simp
  | succ n ih =>
    rw [List.range_succ, List.map_append, List.sum_append, ih]
    by_cases hc : c
    · by_cases h1 : n = m
      · subst h1; simp [hc]
      · by_cases h2 : m < n
        · simp [hc, h1, h2, show m < n + 1 by omega]
        · simp [hc, h1, h2, show ¬ m < n + 1 by omega]
    · simp [hc]
theorem match_len (ps : List Pat) (x : Pat) (q : List L) : (matchF (ps ++ [x]) q).length = (matchF ps q).length + ((if x.path = q ∧ x.wild = false then 1 else 0) + if x.path.length < q.length ∧ (q.take x.path.length = x.path ∧ x.wild = true) then 1 else 0) := by
  have h1 : (idsAt (ps ++ [x]) q false).length = (idsAt ps q false).length + if x.path = q ∧ x.wild = false then 1 else 0 := by
    rw [ids_more, List.length_append]
    split <;> rfl
  have h2 := flat_len q.length (fun j => idsAt (ps ++ [x]) (q.take j) true) (fun j => idsAt ps (q.take j) true) (fun j => if j = x.path.length ∧ (q.take x.path.length = x.path ∧ x.wild = true) then 1 else 0) (fun j hj => by
    rw [ids_more, List.length_append]
    congr 1
    by_cases h : x.path = q.take j ∧ x.wild = true
    · have hl := congrArg List.length h.1
      rw [List.length_take, Nat.min_eq_left (by omega)] at hl
      rw [if_pos h, if_pos ⟨hl.symm, by rw [hl]; exact h.1.symm, h.2⟩]
      rfl
    · rw [if_neg h, if_neg (fun ⟨h3, h4, h5⟩ => h ⟨by rw [h3]; exact h4.symm, h5⟩)]
      rfl)
  rw [one_sum] at h2
  rw [matchF, matchF, List.length_append, List.length_append, h1, wildsF, wildsF, h2]
  omega
/-- The law. -/
theorem each_more (ps : List Pat) (m q : L) (b : Bool) (i : Int) : decide ((matchF ps (pathOf q)).length < (matchF (ps ++ [⟨pathOf m, b, i⟩]) (pathOf q)).length) = if b then (!decide (q = m)) && underL q m else decide (q = m) := by
  rw [match_len]
  cases b with
  | false =>
    by_cases h : q = m
    · subst h; simp
    · have : ¬ pathOf m = pathOf q := fun e => h ((path_inj m q).1 e).symm
      simp [h, this]
  | true =>
    by_cases h : q = m
    · subst h; simp
    · have hu := under_low q m h
      unfold Low at hu
      by_cases hl : (pathOf m).length < (pathOf q).length ∧ (pathOf q).take (pathOf m).length = pathOf m
      · simp [h, hu.2 hl, hl.1, hl.2]
      · have hf : underL q m = false := by
          cases e : underL q m with
          | false => rfl
          | true => exact absurd (hu.1 e) hl
        have : ¬ ((pathOf m).length < (pathOf q).length ∧ ((pathOf q).take (pathOf m).length = pathOf m ∧ true = true)) := fun ⟨h1, h2, _⟩ => hl ⟨h1, h2⟩
        simp only [h, hf, this]
        simp
        exact fun h1 h2 => hl ⟨h1, h2⟩
theorem flat_le2 (n c : Nat) (f : Nat → List Int) (h : ∀ j, j < n → (f j).length ≤ c) : (((List.range n).map f).reverse.flatten).length ≤ n * c := by
  induction n with
  | zero => simp
  | succ n ih =>
    have ih := ih fun j hj => h j (by omega)
    have hn := h n (by omega)
    simp only [List.range_succ, List.map_append, List.reverse_append, List.flatten_append, List.length_append, List.map_cons, List.map_nil, List.reverse_singleton, List.flatten_singleton] at ih ⊢
    rw [Nat.succ_mul]
    omega
theorem match_le (ps : List Pat) (q : List L) : (matchF ps q).length ≤ (q.length + 1) * ps.length := by
  have h1 := idsAt_len ps q false
  have h2 := flat_le2 q.length ps.length (fun j => idsAt ps (q.take j) true) (fun j _ => idsAt_len ps _ true)
  rw [matchF, List.length_append, wildsF, Nat.succ_mul]
  omega
theorem filt_snoc (bs : List Int) (p : Int → Bool) (k : Nat) (hk : k < bs.length) : (bs.take (k + 1)).filter p = (bs.take k).filter p ++ if p (bs.getD k 0) then [bs.getD k 0] else [] := by
  rw [List.take_succ_eq_append_getElem hk, List.filter_append]
  congr 1
  have e : bs.getD k 0 = bs[k] := by simp [List.getD_eq_getElem?_getD, hk]
  rw [e]
  by_cases h : p bs[k] = true
  · simp [h]
  · simp [h]
end Go.Proofs.YtimaliamidgflaaDoor
