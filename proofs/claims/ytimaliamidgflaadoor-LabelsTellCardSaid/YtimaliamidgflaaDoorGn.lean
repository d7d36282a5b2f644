/-
  Several texts of this seat in one: LwA, LeA, LtA, LtB.
-/
import Derived.Test.YtimaliamidgflaaDoorGl
import Derived.Test.YtimaliamidgflaaDoorNlA
import Derived.Test.YtimaliamidgflaaDoorNuA
import Derived.Test.YtimaliamidgflaaDoorGp
import Derived.Test.YtimaliamidgflaaDoorRefL
import Derived.Test.YtimaliamidgflaaDoorApp
namespace Go.Proofs.YtimaliamidgflaaDoor
open Go.RowKit Go.Proofs.YtimaliamidgflaaDoorW.PrintWords
set_option linter.unusedVariables false
set_option linter.unusedSimpArgs false
set_option maxRecDepth 100000
set_option maxHeartbeats 1000000

theorem splitD_app (a z : L) : splitD (a ++ 46 :: z) = splitD a ++ splitD z := by
  induction a with
  | nil => simp [splitD]
  | cons c a ih =>
    rw [List.cons_append, splitD, splitD]
    by_cases hc : c = 46
    · rw [if_pos hc, if_pos hc, ih]; rfl
    · rw [if_neg hc, if_neg hc, ih]
      cases h : splitD a with
      | nil => exact absurd h (splitD_ne a)
      | cons y ys => rfl
theorem path_ne (s : L) (h : s ≠ []) : pathOf s = (splitD s).reverse := by rw [pathOf, labelsOf, if_neg h]
theorem path_app (a z : L) (hz : z ≠ []) : pathOf (a ++ 46 :: z) = pathOf z ++ (splitD a).reverse := by
  rw [path_ne _ (by simp), path_ne _ hz, splitD_app, List.reverse_append]
theorem flat_single {α : Type} (n m : Nat) (c : Prop) [Decidable c] (x : List α) : ((List.range n).map fun j => if j = m ∧ c then x else []).reverse.flatten = if m < n ∧ c then x else [] := by
  induction n with
  | zero => simp
  | succ n ih =>
    rw [List.range_succ, List.map_append, List.reverse_append, List.flatten_append, ih]
    simp only [List.map_cons, List.map_nil, List.reverse_singleton, List.flatten_singleton]
    by_cases hc : c
    · by_cases h1 : n = m
      · subst h1
        simp [hc]
      · simp only [h1, false_and, if_false, List.nil_append, hc, and_true]
        by_cases h2 : m < n
        · rw [if_pos h2, if_pos (by omega)]
        · rw [if_neg h2, if_neg (by omega)]
    · simp [hc]
/-- A zone, wild and plain. -/
def zonePs (pz : List L) : List Pat := [⟨pz, true, 1⟩, ⟨pz, false, 2⟩]
theorem zone_ids (pz p : List L) (b : Bool) : idsAt (zonePs pz) p b = if pz = p then (if b then [1] else [2]) else [] := by
  by_cases h : pz = p
  · subst h
    cases b <;> simp [idsAt, zonePs]
  · simp [idsAt, zonePs, h]
theorem zone_match (pz q : List L) : matchF (zonePs pz) q = if q = pz then [2] else if pz.length < q.length ∧ q.take pz.length = pz then [1] else [] := by
  have hw : wildsF (zonePs pz) q q.length = (List.range q.length).map fun j => if j = pz.length ∧ q.take pz.length = pz then [1] else [] := by
    apply List.map_congr_left
    intro j hj
    have hj := List.mem_range.1 hj
    rw [zone_ids]
    by_cases h : pz = q.take j
    · have hl : j = pz.length := by rw [h, List.length_take]; omega
      subst hl
      have h2 : List.take pz.length q = pz := h.symm
      simp [h2]
    · rw [if_neg h, if_neg (fun ⟨h1, h2⟩ => h (by rw [h1]; exact h2.symm))]
  rw [matchF, hw, flat_single, zone_ids]
  by_cases h : q = pz
  · subst h
    simp
  · rw [if_neg h, if_neg (fun e => h e.symm), List.nil_append]
def xN : Nat → L → L
  | 0, z => z
  | k + 1, z => 120 :: 46 :: xN k z
theorem xN_ne (k : Nat) (z : L) (hz : z ≠ []) : xN k z ≠ [] := by cases k <;> simp [xN, hz]
theorem xN_len (k : Nat) (z : L) : (xN k z).length = 2 * k + z.length := by
  induction k with
  | zero => simp [xN]
  | succ k ih => simp [xN, ih]; omega
theorem xN_path (k : Nat) (z : L) (hz : z ≠ []) : pathOf (xN k z) = pathOf z ++ List.replicate k [120] := by
  induction k with
  | zero => simp [xN]
  | succ k ih =>
    rw [xN, show (120 :: 46 :: xN k z : L) = [120] ++ 46 :: xN k z from rfl, path_app _ _ (xN_ne k z hz), ih, List.replicate_succ', List.append_assoc]
    rfl
theorem wild_under (z : L) (hz : z ≠ []) (N : Nat) : matchF (zonePs (pathOf z)) (pathOf (xN N z)) = if N = 0 then [2] else [1] := by
  rw [zone_match, xN_path N z hz]
  cases N with
  | zero => simp
  | succ n =>
    rw [if_neg (fun e => by have := congrArg List.length e; simp at this), if_pos ⟨by simp, by simp⟩, if_neg (by omega)]
theorem wild_self (z : L) : matchF (zonePs (pathOf z)) (pathOf z) = [2] := by rw [zone_match, if_pos rfl]
theorem wild_longer (z : L) (hz : z ≠ []) : matchF (zonePs (pathOf z)) (pathOf (120 :: z)) = [] := by
  cases h : splitD z with
  | nil => exact absurd h (splitD_ne z)
  | cons y ys =>
    have h2 : splitD (120 :: z) = (120 :: y) :: ys := splitD_skip 120 z y ys (by decide) h
    rw [zone_match, path_ne _ hz, path_ne _ (by simp), h, h2]
    rw [if_neg (fun e => by simp at e), if_neg (by simp)]
theorem wild_more (m z : L) (hz : z ≠ []) : matchF (zonePs (pathOf z)) (pathOf (m ++ 46 :: z)) = [1] := by
  have hne := splitD_ne m
  have hl : 0 < (splitD m).length := List.length_pos_iff.2 hne
  rw [zone_match, path_app _ _ hz]
  rw [if_neg (fun e => by have := congrArg List.length e; simp at this; exact hne this), if_pos ⟨by simp; omega, by simp⟩]
end Go.Proofs.YtimaliamidgflaaDoor

namespace Go.Proofs.YtimaliamidgflaaDoor
open Go.RowKit Go.Proofs.YtimaliamidgflaaDoorW.PrintWords
set_option linter.unusedVariables false
set_option linter.unusedSimpArgs false
set_option maxRecDepth 100000
set_option maxHeartbeats 1000000

theorem labels_inj (s z : L) (h : labelsOf s = labelsOf z) : s = z := by
  unfold labelsOf at h
  by_cases hs : s = []
  · by_cases hz : z = []
    · rw [hs, hz]
    · rw [if_pos hs, if_neg hz] at h
      exact absurd h.symm (splitD_ne z)
  · by_cases hz : z = []
    · rw [if_neg hs, if_pos hz] at h
      exact absurd h (splitD_ne s)
    · rw [if_neg hs, if_neg hz] at h
      rw [← join_split s, h, join_split]
theorem path_inj (s z : L) : pathOf s = pathOf z ↔ s = z :=
  ⟨fun h => labels_inj s z (by have := congrArg List.reverse h; simpa [pathOf] using this), fun h => by rw [h]⟩
theorem path_nil (s : L) : pathOf s = [] ↔ s = [] := by
  rw [show ([] : List L) = pathOf [] from rfl, path_inj]
/-- Under, and not the same. -/
def Low (s z : L) : Prop := (pathOf z).length < (pathOf s).length ∧ (pathOf s).take (pathOf z).length = pathOf z
theorem low_nil (s : L) : Low s [] ↔ s ≠ [] := by
  unfold Low
  constructor
  · rintro ⟨h, -⟩ e
    subst e
    exact absurd h (by decide)
  · intro h
    refine ⟨?_, rfl⟩
    show 0 < (pathOf s).length
    exact List.length_pos_iff.2 (fun e => h ((path_nil s).1 e))
theorem low_cat (s z : L) (hz : z ≠ []) : Low s z ↔ ∃ m, s = m ++ 46 :: z := by
  unfold Low
  constructor
  · rintro ⟨h1, h2⟩
    have hs : s ≠ [] := fun e => by subst e; exact absurd h1 (by rw [show pathOf [] = [] from rfl]; simp)
    obtain ⟨r, hr⟩ : ∃ r, (pathOf s).drop (pathOf z).length = r := ⟨_, rfl⟩
    have h3 : pathOf s = pathOf z ++ r := by
      have h := List.take_append_drop (pathOf z).length (pathOf s)
      rw [h2, hr] at h
      exact h.symm
    have h4 := congrArg List.reverse h3
    rw [List.reverse_append, path_ne s hs, path_ne z hz, List.reverse_reverse, List.reverse_reverse] at h4
    have hrn : r.reverse ≠ [] := fun e => by
      have hl := congrArg List.length h3
      have := congrArg List.length e
      simp at this
      subst this
      simp at hl
      omega
    refine ⟨joinL r.reverse, ?_⟩
    have h5 := join_split s
    rw [h4] at h5
    cases hd : splitD z with
    | nil => exact absurd hd (splitD_ne z)
    | cons x t =>
      have h6 := join_split z
      rw [hd] at h5 h6
      rw [joinL_app _ _ _ hrn] at h5
      rw [← h5, ← h6]
      rfl
  · rintro ⟨m, rfl⟩
    rw [path_app _ _ hz]
    have hl : 0 < (splitD m).length := List.length_pos_iff.2 (splitD_ne m)
    exact ⟨by simp; omega, by simp⟩
theorem under_low (s z : L) (h : s ≠ z) : underL s z = true ↔ Low s z := by
  by_cases hz : z = []
  · subst hz
    rw [low_nil]
    exact ⟨fun _ => h, fun _ => by simp [underL]⟩
  · rw [low_cat s z hz]
    constructor
    · intro hu
      unfold underL at hu
      have h1 : z.isEmpty = false := by simpa using hz
      have h2 : (s == z) = false := by simpa using h
      rw [h1, h2, Bool.false_or, Bool.false_or] at hu
      unfold Lib.hasSuffix at hu
      obtain ⟨m, hm⟩ := List.isSuffixOf_iff_suffix.1 hu
      exact ⟨m, hm.symm⟩
    · rintro ⟨m, rfl⟩
      exact under_of _ m z rfl
theorem low_take (s z : L) (j : Nat) (hj : j < (pathOf s).length) : pathOf z = (pathOf s).take j ↔ Low s z ∧ (pathOf z).length = j := by
  unfold Low
  constructor
  · intro h
    have hl := congrArg List.length h
    rw [List.length_take, Nat.min_eq_left (by omega)] at hl
    exact ⟨⟨by omega, by rw [hl]; exact h.symm⟩, hl⟩
  · rintro ⟨⟨h1, h2⟩, rfl⟩
    exact h2.symm

/-! one pattern more -/
theorem ids_more (ps : List Pat) (x : Pat) (p : List L) (b : Bool) : idsAt (ps ++ [x]) p b = idsAt ps p b ++ if x.path = p ∧ x.wild = b then [x.id] else [] := by
  by_cases h : x.path = p ∧ x.wild = b
  · obtain ⟨h1, h2⟩ := h
    rw [if_pos ⟨h1, h2⟩, ← idsAt_same, ← h1, ← h2]
  · rw [if_neg h, List.append_nil, idsAt_other _ _ _ _ h]
theorem ids_filter (ps : List Pat) (x : Pat) (p : List L) (b : Bool) (h : ∀ y ∈ ps, y.id ≠ x.id) : (idsAt (ps ++ [x]) p b).filter (fun i => !(i == x.id)) = idsAt ps p b := by
  rw [ids_more, List.filter_append]
  have h1 : (idsAt ps p b).filter (fun i => !(i == x.id)) = idsAt ps p b := by
    rw [List.filter_eq_self]
    intro i hi
    rw [idsAt, List.mem_map] at hi
    obtain ⟨y, hy, rfl⟩ := hi
    have := h y (List.mem_filter.1 hy).1
    simpa using this
  rw [h1]
  split <;> simp
theorem match_filter (ps : List Pat) (x : Pat) (q : List L) (h : ∀ y ∈ ps, y.id ≠ x.id) : (matchF (ps ++ [x]) q).filter (fun i => !(i == x.id)) = matchF ps q := by
  rw [matchF, matchF, List.filter_append, ids_filter ps x q false h, List.filter_flatten]
  congr 2
  have : wildsF ps q q.length = (wildsF (ps ++ [x]) q q.length).map (List.filter fun i => !(i == x.id)) := by
    rw [wildsF, wildsF, List.map_map]
    apply List.map_congr_left
    intro j _
    exact (ids_filter ps x _ true h).symm
  rw [this, List.map_reverse]
theorem flat_len (n : Nat) (f g : Nat → List Int) (c : Nat → Nat) (h : ∀ j, j < n → (f j).length = (g j).length + c j) : (((List.range n).map f).reverse.flatten).length = (((List.range n).map g).reverse.flatten).length + ((List.range n).map c).sum := by
  induction n with
  | zero => rfl
  | succ n ih =>
    have ih := ih fun j hj => h j (by omega)
    have hn := h n (by omega)
    simp only [List.range_succ, List.map_append, List.reverse_append, List.flatten_append, List.length_append, List.map_cons, List.map_nil, List.reverse_singleton, List.flatten_singleton, List.sum_append, List.sum_cons, List.sum_nil] at ih ⊢
    omega
theorem one_sum (n m : Nat) (c : Prop) [Decidable c] : ((List.range n).map fun j => if j = m ∧ c then 1 else 0).sum = if m < n ∧ c then 1 else 0 := by
  induction n with
  | zero => simp
  | succ n ih =>
    rw [List.range_succ, List.map_append, List.sum_append, ih]
    by_cases hc : c
    · by_cases h1 : n = m
      · subst h1; simp [hc]
      · by_cases h2 : m < n
        · simp [hc, h1, h2, show m < n + 1 by omega]
        · simp [hc, h1, h2, show ¬ m < n + 1 by omega]
    · simp [hc]
theorem match_len (ps : List Pat) (x : Pat) (q : List L) : (matchF (ps ++ [x]) q).length = (matchF ps q).length + ((if x.path = q ∧ x.wild = false then 1 else 0) + if x.path.length < q.length ∧ (q.take x.path.length = x.path ∧ x.wild = true) then 1 else 0) := by
  have h1 : (idsAt (ps ++ [x]) q false).length = (idsAt ps q false).length + if x.path = q ∧ x.wild = false then 1 else 0 := by
    rw [ids_more, List.length_append]
    split <;> rfl
  have h2 := flat_len q.length (fun j => idsAt (ps ++ [x]) (q.take j) true) (fun j => idsAt ps (q.take j) true) (fun j => if j = x.path.length ∧ (q.take x.path.length = x.path ∧ x.wild = true) then 1 else 0) (fun j hj => by
    rw [ids_more, List.length_append]
    congr 1
    by_cases h : x.path = q.take j ∧ x.wild = true
    · have hl := congrArg List.length h.1
      rw [List.length_take, Nat.min_eq_left (by omega)] at hl
      rw [if_pos h, if_pos ⟨hl.symm, by rw [hl]; exact h.1.symm, h.2⟩]
      rfl
    · rw [if_neg h, if_neg (fun ⟨h3, h4, h5⟩ => h ⟨by rw [h3]; exact h4.symm, h5⟩)]
      rfl)
  rw [one_sum] at h2
  rw [matchF, matchF, List.length_append, List.length_append, h1, wildsF, wildsF, h2]
  omega
/-- The law. -/
theorem each_more (ps : List Pat) (m q : L) (b : Bool) (i : Int) : decide ((matchF ps (pathOf q)).length < (matchF (ps ++ [⟨pathOf m, b, i⟩]) (pathOf q)).length) = if b then (!decide (q = m)) && underL q m else decide (q = m) := by
  rw [match_len]
  cases b with
  | false =>
    by_cases h : q = m
    · subst h; simp
    · have : ¬ pathOf m = pathOf q := fun e => h ((path_inj m q).1 e).symm
      simp [h, this]
  | true =>
    by_cases h : q = m
    · subst h; simp
    · have hu := under_low q m h
      unfold Low at hu
      by_cases hl : (pathOf m).length < (pathOf q).length ∧ (pathOf q).take (pathOf m).length = pathOf m
      · simp [h, hu.2 hl, hl.1, hl.2]
      · have hf : underL q m = false := by
          cases e : underL q m with
          | false => rfl
          | true => exact absurd (hu.1 e) hl
        have : ¬ ((pathOf m).length < (pathOf q).length ∧ ((pathOf q).take (pathOf m).length = pathOf m ∧ true = true)) := fun ⟨h1, h2, _⟩ => hl ⟨h1, h2⟩
        simp only [h, hf, this]
        simp
        exact fun h1 h2 => hl ⟨h1, h2⟩
theorem flat_le2 (n c : Nat) (f : Nat → List Int) (h : ∀ j, j < n → (f j).length ≤ c) : (((List.range n).map f).reverse.flatten).length ≤ n * c := by
  induction n with
  | zero => simp
  | succ n ih =>
    have ih := ih fun j hj => h j (by omega)
    have hn := h n (by omega)
    simp only [List.range_succ, List.map_append, List.reverse_append, List.flatten_append, List.length_append, List.map_cons, List.map_nil, List.reverse_singleton, List.flatten_singleton] at ih ⊢
    rw [Nat.succ_mul]
    omega
theorem match_le (ps : List Pat) (q : List L) : (matchF ps q).length ≤ (q.length + 1) * ps.length := by
  have h1 := idsAt_len ps q false
  have h2 := flat_le2 q.length ps.length (fun j => idsAt ps (q.take j) true) (fun j _ => idsAt_len ps _ true)
  rw [matchF, List.length_append, wildsF, Nat.succ_mul]
  omega
theorem filt_snoc (bs : List Int) (p : Int → Bool) (k : Nat) (hk : k < bs.length) : (bs.take (k + 1)).filter p = (bs.take k).filter p ++ if p (bs.getD k 0) then [bs.getD k 0] else [] := by
  rw [List.take_succ_eq_append_getElem hk, List.filter_append]
  congr 1
  have e : bs.getD k 0 = bs[k] := by simp [List.getD_eq_getElem?_getD, hk]
  rw [e]
  by_cases h : p bs[k] = true
  · simp [h]
  · simp [h]
end Go.Proofs.YtimaliamidgflaaDoor

namespace Go.Proofs.YtimaliamidgflaaDoor
open Go.RowKit Go.Proofs.YtimaliamidgflaaDoorW.PrintWords
set_option linter.unusedVariables false
set_option linter.unusedSimpArgs false
set_option maxRecDepth 100000
set_option maxHeartbeats 1000000

def tellPs (xs : List PatT) : List Pat := xs.map fun x => ⟨pathOf x.1.data.toList, x.2.1, x.2.2.2⟩
theorem tell_snoc (xs : List PatT) (k : Nat) (s : ByteArray) (b : Bool) (id : Int) (h : ∃ net, xs[k]? = some (s, b, net, id)) : tellPs (xs.take (k + 1)) = tellPs (xs.take k) ++ [⟨pathOf s.data.toList, b, id⟩] := by
  obtain ⟨net, h⟩ := h
  have hk := (List.getElem?_eq_some_iff.1 h).1
  have e := (List.getElem?_eq_some_iff.1 h).2
  rw [List.take_succ_eq_append_getElem hk, tellPs, List.map_append, e]
  rfl
theorem tell_len (xs : List PatT) (k : Nat) : (tellPs (xs.take k)).length ≤ k := by
  rw [tellPs, List.length_map, List.length_take]
  omega
/-- The wild ones of so many labels. -/
def idsN (ps : List Pat) (q : List L) (n : Nat) : List Int := if n < q.length then idsAt ps (q.take n) true else []
theorem idsN_snoc (ps : List Pat) (x : Pat) (q : List L) (n : Nat) : idsN (ps ++ [x]) q n = idsN ps q n ++ if x.wild = true ∧ n < q.length ∧ x.path = q.take n then [x.id] else [] := by
  unfold idsN
  by_cases hn : n < q.length
  · rw [if_pos hn, if_pos hn, ids_more]
    congr 1
    by_cases h : x.path = q.take n ∧ x.wild = true
    · rw [if_pos h, if_pos ⟨h.2, hn, h.1⟩]
    · rw [if_neg h, if_neg (fun h2 => h ⟨h2.2.2, h2.1⟩)]
  · rw [if_neg hn, if_neg hn, if_neg (fun h2 => hn h2.2.1)]
    rfl
theorem idsN_nil (q : List L) (n : Nat) : idsN [] q n = [] := by unfold idsN; split <;> rfl
/-- The longest first. -/
def gN (ps : List Pat) (q : List L) : Nat → List Int
  | 0 => []
  | m + 1 => gN ps q m ++ idsN ps q (q.length - m)
theorem gN_all (ps : List Pat) (q : List L) : gN ps q (q.length + 1) = (wildsF ps q q.length).reverse.flatten := by
  have key : ∀ m, m ≤ q.length → gN ps q (m + 1) = (((List.range q.length).drop (q.length - m)).map fun j => idsAt ps (q.take j) true).reverse.flatten := by
    intro m
    induction m with
    | zero =>
      intro _
      rw [Nat.sub_zero, List.drop_eq_nil_of_le (by simp)]
      show [] ++ idsN ps q (q.length - 0) = _
      rw [idsN, if_neg (by omega)]
      rfl
    | succ m ih =>
      intro hm
      have h1 : (List.range q.length).drop (q.length - (m + 1)) = (q.length - (m + 1)) :: (List.range q.length).drop (q.length - m) := by
        rw [List.drop_eq_getElem_cons (by simp; omega), List.getElem_range, show q.length - (m + 1) + 1 = q.length - m by omega]
      rw [gN, ih (by omega), h1, List.map_cons, List.reverse_cons, List.flatten_append, idsN, if_pos (by omega)]
      simp
  rw [key _ (Nat.le_refl _), Nat.sub_self, List.drop_zero]
  rfl
theorem tell_all (ps : List Pat) (q : List L) : idsAt ps q false ++ gN ps q (q.length + 1) = matchF ps q := by rw [gN_all]; rfl
theorem path_len (s : L) : (pathOf s).length = (labelsOf s).length := List.length_reverse ..
theorem tell_cond (nm s : L) (n : Nat) : (n < (pathOf nm).length ∧ pathOf s = (pathOf nm).take n) ↔ (labelsOf s).length = n ∧ s ≠ nm ∧ underL nm s = true := by
  constructor
  · rintro ⟨h1, h2⟩
    obtain ⟨h3, h4⟩ := (low_take nm s n h1).1 h2
    have hne : nm ≠ s := fun e => by subst e; exact absurd h3.1 (Nat.lt_irrefl _)
    exact ⟨by rw [← path_len]; exact h4, fun e => hne e.symm, (under_low nm s hne).2 h3⟩
  · rintro ⟨h1, h2, h3⟩
    have h4 := (under_low nm s (fun e => h2 e.symm)).1 h3
    have h5 : n < (pathOf nm).length := by rw [← h1, ← path_len]; exact h4.1
    exact ⟨h5, (low_take nm s n h5).2 ⟨h4, by rw [path_len]; exact h1⟩⟩
end Go.Proofs.YtimaliamidgflaaDoor

namespace Go.Proofs.YtimaliamidgflaaDoor
open Go.RowKit Go.Proofs.YtimaliamidgflaaDoorW.PrintWords Go.Proofs.YtimaliamidgflaaDoor.P
set_option linter.unusedVariables false
set_option linter.unusedSimpArgs false
set_option maxRecDepth 100000
set_option maxHeartbeats 1000000

theorem str_eq (s z : ByteArray) : (s.toList == z.toList) = decide (s.data.toList = z.data.toList) := by
  rw [ByteArray.toList_eq, ByteArray.toList_eq]
  by_cases h : s.data.toList = z.data.toList
  · rw [h]; simp
  · rw [beq_eq_false_iff_ne.2 h, decide_eq_false h]
theorem mname_calls (A : Option Addr) (n c : Nat) (xs : List PatT) (nm : ByteArray) (w : World) (h : patK.C w A n xs) (hn : xs.length ≤ 40) (hx : ∀ x ∈ xs, x.1.size ≤ 2000) (hs : nm.size ≤ 300) :
    Calls Tryd.prog 20 #[.slice A n c, .string nm] w (Gives intsK (matchF (tellPs xs) (pathOf nm.data.toList)) w) := by
  obtain rfl := (C_len h).1
  have HC := Kp.mk h
  have HX := Kp.mk hx
  have HLB := Kp.mk (fun w => stockaderef12_Labels.calls 1000 nm _ w (ref_labels 1000 nm (by omega) (by omega)))
  obtain ⟨q, hq⟩ : ∃ q, pathOf nm.data.toList = q := ⟨_, rfl⟩
  have hql : (labelsOf nm.data.toList).length = q.length := by rw [← hq, path_len]
  have hq301 : q.length ≤ 301 := by
    have h1 := labels_few nm.data.toList
    have h2 : nm.data.toList.length = nm.size := data_length nm
    omega
  have HALL := Kp.mk (tell_all (tellPs xs) q)
  have HQL := Kp.mk hql
  have HQ := Kp.mk hq
  rw [hq]
  clear h hx hq hql
  go_enter Tryd.func20, Tryd.ntmps20
  go_wp2_with (fail)
  go_loopw [5, 6] (fun v i wr => ∃ (k : Nat) (rs : List Int) (A : Option Addr) (c : Nat), k ≤ xs.length ∧ i = .int .i64 (k : Int) ∧ v = .slice A rs.length c ∧ rs.length ≤ k ∧ Kp (idsAt (tellPs (xs.take k)) q false = rs) ∧ Kp ((Kd.int .i64).R 3 wr w.heap.size (fun _ => True) (.slice A rs.length c) rs) ∧ Kp (Below w.heap.size w wr)) (fun _ i _ => xs.length - (intOf i).toNat)
  case atStart => exact ⟨0, [], none, 0, Nat.zero_le _, rfl, rfl, Nat.le_refl _, ⟨rfl⟩, ⟨Kd.R_nil _ _ _ _ _⟩, ⟨Below.refl _ _⟩⟩
  case round =>
    obtain ⟨k, rs, A1, c1, hk, rfl, rfl, hrl, HRS, HR, HW⟩ := hrel
    have hsz : w.heap.size ≤ wr.heap.size := HW.out.size
    by_cases hlt : k < xs.length
    · obtain ⟨ad, s, b, id, rfl, hg, cw0, cw1, cw2⟩ := at_pat HC.out k hlt
      have cc0 := pw_cell_below HW.out cw0
      have cc1 := pw_cell_below HW.out cw1
      have cc2 := pw_cell_below HW.out cw2
      have hsn := tell_snoc xs k s b id hg
      have hid : idsAt (tellPs (xs.take (k + 1))) q false = rs ++ if pathOf s.data.toList = q ∧ b = false then [id] else [] := by rw [hsn, ids_more, HRS.out]
      clear cw0 cw1 cw2 hg hsn
      cases b with
      | true =>
        have HST : Kp (idsAt (tellPs (xs.take (k + 1))) q false = rs) := ⟨by rw [hid]; simp⟩
        clear hid
        go_wp2
        exact ⟨⟨k + 1, rs, A1, c1, by omega, by go_num, rfl, by omega, HST, HR, HW⟩, by simp [intOf]; omega⟩
      | false =>
        by_cases he : s.data.toList = nm.data.toList
        · have bs : (s.toList == nm.toList) = true := by rw [str_eq]; simpa using he
          have HST : Kp (idsAt (tellPs (xs.take (k + 1))) q false = rs ++ [id]) := ⟨by rw [hid, he, HQ.out]; simp⟩
          clear hid he
          go_wp2_with (at_builtin; with_reducible refine gate_builtin (b := .append) (xs := #[.tmp 30, .tmp 36]) rfl ?_; go_must (refine app_int (w0 := w) (base := w.heap.size) (s := .tmp 30) (x := .tmp 36) (v := .slice A1 rs.length c1) rfl rfl rs id rfl rfl HR.out HW.out hsz (by omega) ?_))
          intro v5 w5 HR5 HB5 hs5
          obtain ⟨A5, c5, rfl⟩ := Kd.R_slice HR5.out
          go_wp2
          exact ⟨⟨k + 1, rs ++ [id], A5, c5, by omega, by go_num, rfl, by simp; omega, HST, HR5, HB5⟩, by simp [intOf]; omega⟩
        · have bs : (s.toList == nm.toList) = false := by rw [str_eq]; simpa using he
          have HST : Kp (idsAt (tellPs (xs.take (k + 1))) q false = rs) := ⟨by rw [hid, ← HQ.out, if_neg (fun h => he ((path_inj _ _).1 h.1)), List.append_nil]⟩
          clear hid he
          go_wp2
          exact ⟨⟨k + 1, rs, A1, c1, by omega, by go_num, rfl, by omega, HST, HR, HW⟩, by simp [intOf]; omega⟩
    · obtain rfl : k = xs.length := by omega
      rw [List.take_length] at HRS
      go_wp2_with (fail)
      refine (HLB.out _).mono ?_
      rintro e2 w2 ⟨v2, rfl, hm2, hb2⟩
      obtain ⟨A2, c2, rfl⟩ := Kd.R_slice hm2
      rw [List.length_map, HQL.out]
      have HR2 := Kp.mk (Kd.R_below HR.out hb2)
      have HW2 := Kp.mk (below_step HW.out hb2)
      obtain ⟨ib, hib⟩ : ∃ ib, idsAt (tellPs xs) q false = ib := ⟨_, rfl⟩
      rw [hib] at HALL HRS
      obtain rfl : ib = rs := HRS.out
      clear hm2 hb2 HR HW HRS hib hlt hk
      go_wp2_with (fail)
      go_loopw [5, 7] (fun v i wr => ∃ (m : Nat) (rs : List Int) (A : Option Addr) (c : Nat), m ≤ q.length + 1 ∧ i = .int .i64 ((q.length : Int) - (m : Int)) ∧ v = .slice A rs.length c ∧ rs.length ≤ 40 + 40 * m ∧ Kp (ib ++ gN (tellPs xs) q m = rs) ∧ Kp ((Kd.int .i64).R 3 wr w.heap.size (fun _ => True) (.slice A rs.length c) rs) ∧ Kp (Below w.heap.size w wr)) (fun _ i _ => (intOf i + 1).toNat)
      case atStart => exact ⟨0, ib, _, _, by omega, by simp, rfl, by omega, ⟨List.append_nil _⟩, HR2, HW2⟩
      case round =>
        clear HR2 HW2 hsz hrl
        obtain ⟨m, rs, A1, c1, hm, rfl, rfl, hrl, HRS, HR, HW⟩ := hrel
        by_cases hmq : m ≤ q.length
        · have b0 : decide ((0 : Int) ≤ (q.length : Int) - (m : Int)) = true := by simp; omega
          go_wp2_with (fail)
          go_loopw [5, 8] (fun v i wx => ∃ (k : Nat) (ks : List Int) (A : Option Addr) (c : Nat), k ≤ xs.length ∧ i = .int .i64 (k : Int) ∧ v = .slice A ks.length c ∧ ks.length ≤ 40 + 40 * m + k ∧ Kp (rs ++ idsN (tellPs (xs.take k)) q (q.length - m) = ks) ∧ Kp ((Kd.int .i64).R 3 wx w.heap.size (fun _ => True) (.slice A ks.length c) ks) ∧ Kp (Below w.heap.size w wx)) (fun _ i _ => xs.length - (intOf i).toNat)
          case atStart => exact ⟨0, rs, _, _, by omega, rfl, rfl, by omega, ⟨by rw [List.take_zero]; show rs ++ idsN [] q _ = rs; rw [idsN_nil, List.append_nil]⟩, HR, HW⟩
          case round =>
            clear HR HW b0
            obtain ⟨k, ks, A3, c3, hk, rfl, rfl, hkl, HKS, HR, HW⟩ := hrel
            have hsz : w.heap.size ≤ wr.heap.size := HW.out.size
            by_cases hlt : k < xs.length
            · obtain ⟨ad, s, b, id, rfl, hg, cw0, cw1, cw2⟩ := at_pat HC.out k hlt
              have cc0 := pw_cell_below HW.out cw0
              have cc1 := pw_cell_below HW.out cw1
              have cc2 := pw_cell_below HW.out cw2
              have hss : s.size ≤ 2000 := by
                obtain ⟨net, hg⟩ := hg
                exact HX.out _ (List.mem_of_getElem? hg)
              have hcd := tell_cond nm.data.toList s.data.toList (q.length - m)
              rw [HQ.out] at hcd
              have hks : rs ++ idsN (tellPs (xs.take (k + 1))) q (q.length - m) = ks ++ if b = true ∧ (labelsOf s.data.toList).length = q.length - m ∧ s.data.toList ≠ nm.data.toList ∧ underL nm.data.toList s.data.toList = true then [id] else [] := by
                rw [tell_snoc xs k s b id hg, idsN_snoc, ← List.append_assoc, HKS.out]
                simp only [hcd]
              have HKT := Kp.mk hks
              have CW0 := Kp.mk cw0
              have CW1 := Kp.mk cw1
              have CW2 := Kp.mk cw2
              clear cw0 cw1 cw2 hg hcd hks HKS
              cases b with
              | false =>
                have HST : Kp (rs ++ idsN (tellPs (xs.take (k + 1))) q (q.length - m) = ks) := ⟨by rw [HKT.out]; simp⟩
                clear HKT
                go_wp2
                exact ⟨⟨k + 1, ks, A3, c3, by omega, by go_num, rfl, by omega, HST, HR, HW⟩, by simp [intOf]; omega⟩
              | true =>
                have HL := Kp.mk (fun w => stockaderef12_Labels.calls 3000 s _ w (ref_labels 3000 s (by omega) (by omega)))
                go_wp2_with (fail)
                refine (HL.out _).mono ?_
                rintro e3 w3 ⟨v3, rfl, hm3, hb3⟩
                obtain ⟨A4, c4, rfl⟩ := Kd.R_slice hm3
                rw [List.length_map]
                have HR3 := Kp.mk (Kd.R_below HR.out hb3)
                have HW3 := Kp.mk (below_step HW.out hb3)
                have dd0 := pw_cell_below HW3.out CW0.out
                have dd1 := pw_cell_below HW3.out CW1.out
                have dd2 := pw_cell_below HW3.out CW2.out
                clear hm3 hb3 HR HW HL cc0 cc1 cc2
                obtain ⟨ll, hll⟩ : ∃ ll, (labelsOf s.data.toList).length = ll := ⟨_, rfl⟩
                rw [hll] at HKT ⊢
                clear hll
                by_cases hlen : ll = q.length - m
                · have bl : ((ll : Int) == (q.length : Int) - (m : Int)) = true := by simp; omega
                  by_cases he : s.data.toList = nm.data.toList
                  · have bs : (s.toList == nm.toList) = true := by rw [str_eq]; simpa using he
                    have HST : Kp (rs ++ idsN (tellPs (xs.take (k + 1))) q (q.length - m) = ks) := ⟨by rw [HKT.out, if_neg (fun h => h.2.2.1 he), List.append_nil]⟩
                    clear HKT he hlen
                    go_wp2
                    exact ⟨⟨k + 1, ks, A3, c3, by omega, by go_num, rfl, by omega, HST, HR3, HW3⟩, by simp [intOf]; omega⟩
                  · have bs : (s.toList == nm.toList) = false := by rw [str_eq]; simpa using he
                    obtain ⟨u, hu⟩ : ∃ u, underL nm.data.toList s.data.toList = u := ⟨_, rfl⟩
                    have HU := Kp.mk (fun w => stockaderef12_Under.calls nm s _ w (ref_under nm s (by omega) (by omega)))
                    rw [hu] at HU HKT
                    have hkt := HKT.out
                    clear hu HKT
                    cases u with
                    | false =>
                      have HST : Kp (rs ++ idsN (tellPs (xs.take (k + 1))) q (q.length - m) = ks) := ⟨by rw [hkt]; simp⟩
                      clear hkt he hlen
                      go_wp2_with (fail)
                      refine (HU.out _).mono ?_
                      rintro e4 w4 ⟨rfl, hd⟩
                      have HR4 := Kp.mk (Kd.R_below HR3.out hd.below)
                      have HW4 := Kp.mk (below_step HW3.out hd.below)
                      clear hd HU
                      go_wp2
                      exact ⟨⟨k + 1, ks, A3, c3, by omega, by go_num, rfl, by omega, HST, HR4, HW4⟩, by simp [intOf]; omega⟩
                    | true =>
                      have HST : Kp (rs ++ idsN (tellPs (xs.take (k + 1))) q (q.length - m) = ks ++ [id]) := ⟨by rw [hkt, if_pos]; exact ⟨by trivial, hlen, he, by trivial⟩⟩
                      clear hkt he hlen
                      go_wp2_with (fail)
                      refine (HU.out _).mono ?_
                      rintro e4 w4 ⟨rfl, hd⟩
                      have HR4 := Kp.mk (Kd.R_below HR3.out hd.below)
                      have HW4 := Kp.mk (below_step HW3.out hd.below)
                      have ee2 := pw_cell_below HW4.out CW2.out
                      have hsz4 : w.heap.size ≤ w4.heap.size := HW4.out.size
                      clear hd HU
                      go_wp2_with (at_builtin; with_reducible refine gate_builtin (b := .append) (xs := #[.tmp 85, .tmp 91]) rfl ?_; go_must (refine app_int (w0 := w) (base := w.heap.size) (s := .tmp 85) (x := .tmp 91) (v := .slice A3 ks.length c3) rfl rfl ks id rfl rfl HR4.out HW4.out hsz4 (by omega) ?_))
                      intro v5 w5 HR5 HB5 hs5
                      obtain ⟨A5, c5, rfl⟩ := Kd.R_slice HR5.out
                      go_wp2
                      exact ⟨⟨k + 1, ks ++ [id], A5, c5, by omega, by go_num, rfl, by simp; omega, HST, HR5, HB5⟩, by simp [intOf]; omega⟩
                · have bl : ((ll : Int) == (q.length : Int) - (m : Int)) = false := by simp; omega
                  have HST : Kp (rs ++ idsN (tellPs (xs.take (k + 1))) q (q.length - m) = ks) := ⟨by rw [HKT.out, if_neg (fun h => hlen h.2.1), List.append_nil]⟩
                  clear HKT
                  go_wp2
                  exact ⟨⟨k + 1, ks, A3, c3, by omega, by go_num, rfl, by omega, HST, HR3, HW3⟩, by simp [intOf]; omega⟩
            · obtain rfl : k = xs.length := by omega
              rw [List.take_length] at HKS
              have HST : Kp (ib ++ gN (tellPs xs) q (m + 1) = ks) := ⟨by rw [gN, ← List.append_assoc, HRS.out]; exact HKS.out⟩
              clear HKS HRS hlt
              go_wp2
              exact ⟨⟨m + 1, ks, A3, c3, by omega, by simp; omega, rfl, by omega, HST, HR, HW⟩, by simp [intOf]; omega⟩
        · obtain rfl : m = q.length + 1 := by omega
          rw [HALL.out] at HRS
          obtain rfl := HRS.out
          have b0 : decide ((0 : Int) ≤ (q.length : Int) - ((q.length + 1 : Nat) : Int)) = false := by simp; omega
          go_wp2
          go_ret
          exact ⟨_, rfl, ⟨_, rfl, HR.out⟩, HW.out⟩
end Go.Proofs.YtimaliamidgflaaDoor
