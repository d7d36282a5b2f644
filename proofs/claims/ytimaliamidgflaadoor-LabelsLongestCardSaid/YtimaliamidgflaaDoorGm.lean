/-
  Several texts of this seat in one: LwA, LlA, LlB.
-/
import Derived.Test.YtimaliamidgflaaDoorGl
import Derived.Test.YtimaliamidgflaaDoorNlA
import Derived.Test.YtimaliamidgflaaDoorNuA
import Derived.Test.YtimaliamidgflaaDoorPlayN
import Derived.Test.YtimaliamidgflaaDoorNbA
namespace Go.Proofs.YtimaliamidgflaaDoor
open Go.RowKit Go.Proofs.YtimaliamidgflaaDoorW.PrintWords
set_option linter.unusedVariables false
set_option linter.unusedSimpArgs false
set_option maxRecDepth 100000
set_option maxHeartbeats 1000000

theorem splitD_app (a z : L) : splitD (a ++ 46 :: z) = splitD a ++ splitD z := by
  induction a with
  | nil => simp [splitD]
  | cons c a ih =>
    rw [List.cons_append, splitD, splitD]
    by_cases hc : c = 46
    · rw [if_pos hc, if_pos hc, ih]; rfl
    · rw [if_neg hc, if_neg hc, ih]
      cases h : splitD a with
      | nil => exact absurd h (splitD_ne a)
      | cons y ys => rfl
theorem path_ne (s : L) (h : s ≠ []) : pathOf s = (splitD s).reverse := by rw [pathOf, labelsOf, if_neg h]
theorem path_app (a z : L) (hz : z ≠ []) : pathOf (a ++ 46 :: z) = pathOf z ++ (splitD a).reverse := by
  rw [path_ne _ (by simp), path_ne _ hz, splitD_app, List.reverse_append]
theorem flat_single {α : Type} (n m : Nat) (c : Prop) [Decidable c] (x : List α) : ((List.range n).map fun j => if j = m ∧ c then x else []).reverse.flatten = if m < n ∧ c then x else [] := by
  induction n with
  | zero => simp
  | succ n ih =>
    rw [List.range_succ, List.map_append, List.reverse_append, List.flatten_append, ih]
    simp only [List.map_cons, List.map_nil, List.reverse_singleton, List.flatten_singleton]
    by_cases hc : c
    · by_cases h1 : n = m
      · subst h1
        simp [hc]
      · simp only [h1, false_and, if_false, List.nil_append, hc, and_true]
        by_cases h2 : m < n
        · rw [if_pos h2, if_pos (by omega)]
        · rw [if_neg h2, if_neg (by omega)]
    · simp [hc]
/-- A zone, wild and plain. -/
def zonePs (pz : List L) : List Pat := [⟨pz, true, 1⟩, ⟨pz, false, 2⟩]
theorem zone_ids (pz p : List L) (b : Bool) : idsAt (zonePs pz) p b = if pz = p then (if b then [1] else [2]) else [] := by
  by_cases h : pz = p
  · subst h
    cases b <;> simp [idsAt, zonePs]
  · simp [idsAt, zonePs, h]
theorem zone_match (pz q : List L) : matchF (zonePs pz) q = if q = pz then [2] else if pz.length < q.length ∧ q.take pz.length = pz then [1] else [] := by
  have hw : wildsF (zonePs pz) q q.length = (List.range q.length).map fun j => if j = pz.length ∧ q.take pz.length = pz then [1] else [] := by
    apply List.map_congr_left
    intro j hj
    have hj := List.mem_range.1 hj
    rw [zone_ids]
    by_cases h : pz = q.take j
    · have hl : j = pz.length := by rw [h, List.length_take]; omega
      subst hl
      have h2 : List.take pz.length q = pz := h.symm
      simp [h2]
    · rw [if_neg h, if_neg (fun ⟨h1, h2⟩ => h (by rw [h1]; exact h2.symm))]
  rw [matchF, hw, flat_single, zone_ids]
  by_cases h : q = pz
  · subst h
    simp
  · rw [if_neg h, if_neg (fun e => h e.symm), List.nil_append]
def xN : Nat → L → L
  | 0, z => z
  | k + 1, z => 120 :: 46 :: xN k z
theorem xN_ne (k : Nat) (z : L) (hz : z ≠ []) : xN k z ≠ [] := by cases k <;> simp [xN, hz]
theorem xN_len (k : Nat) (z : L) : (xN k z).length = 2 * k + z.length := by
  induction k with
  | zero => simp [xN]
  | succ k ih => simp [xN, ih]; omega
theorem xN_path (k : Nat) (z : L) (hz : z ≠ []) : pathOf (xN k z) = pathOf z ++ List.replicate k [120] := by
  induction k with
  | zero => simp [xN]
  | succ k ih =>
    rw [xN, show (120 :: 46 :: xN k z : L) = [120] ++ 46 :: xN k z from rfl, path_app _ _ (xN_ne k z hz), ih, List.replicate_succ', List.append_assoc]
    rfl
theorem wild_under (z : L) (hz : z ≠ []) (N : Nat) : matchF (zonePs (pathOf z)) (pathOf (xN N z)) = if N = 0 then [2] else [1] := by
  rw [zone_match, xN_path N z hz]
  cases N with
  | zero => simp
  | succ n =>
    rw [if_neg (fun e => by have := congrArg List.length e; simp at this), if_pos ⟨by simp, by simp⟩, if_neg (by omega)]
theorem wild_self (z : L) : matchF (zonePs (pathOf z)) (pathOf z) = [2] := by rw [zone_match, if_pos rfl]
theorem wild_longer (z : L) (hz : z ≠ []) : matchF (zonePs (pathOf z)) (pathOf (120 :: z)) = [] := by
  cases h : splitD z with
  | nil => exact absurd h (splitD_ne z)
  | cons y ys =>
    have h2 : splitD (120 :: z) = (120 :: y) :: ys := splitD_skip 120 z y ys (by decide) h
    rw [zone_match, path_ne _ hz, path_ne _ (by simp), h, h2]
    rw [if_neg (fun e => by simp at e), if_neg (by simp)]
theorem wild_more (m z : L) (hz : z ≠ []) : matchF (zonePs (pathOf z)) (pathOf (m ++ 46 :: z)) = [1] := by
  have hne := splitD_ne m
  have hl : 0 < (splitD m).length := List.length_pos_iff.2 hne
  rw [zone_match, path_app _ _ hz]
  rw [if_neg (fun e => by have := congrArg List.length e; simp at this; exact hne this), if_pos ⟨by simp; omega, by simp⟩]
end Go.Proofs.YtimaliamidgflaaDoor

namespace Go.Proofs.YtimaliamidgflaaDoor
open Go.RowKit Go.Proofs.YtimaliamidgflaaDoorW.PrintWords
set_option linter.unusedVariables false
set_option linter.unusedSimpArgs false
set_option maxRecDepth 100000
set_option maxHeartbeats 1000000

theorem splitD_dots (s : L) : ∀ x ∈ splitD s, ∀ c ∈ x, c ≠ 46 := by
  induction s with
  | nil => intro x hx c hc; simp [splitD] at hx; subst hx; cases hc
  | cons b s ih =>
    intro x hx c hc
    rw [splitD] at hx
    by_cases hb : b = 46
    · rw [if_pos hb] at hx
      rcases List.mem_cons.1 hx with rfl | hx
      · cases hc
      · exact ih x hx c hc
    · rw [if_neg hb] at hx
      cases h : splitD s with
      | nil => exact absurd h (splitD_ne s)
      | cons y ys =>
        rw [h] at hx ih
        rcases List.mem_cons.1 hx with rfl | hx
        · rcases List.mem_cons.1 hc with rfl | hc
          · exact hb
          · exact ih y (by simp) c hc
        · exact ih x (List.mem_cons_of_mem _ hx) c hc
theorem zone_join (x : L) (r : List L) (hx : x ≠ []) : zoneF [] (x :: r) = joinL (x :: r) := by
  show zoneF (if ([] : L) = [] then x else _) r = _
  rw [if_pos rfl, zoneF_ne x r hx]
  rfl
theorem zone_full (s : L) (h : ∀ x ∈ labelsOf s, x ≠ []) : zoneF [] (labelsOf s) = s := by
  by_cases hs : s = []
  · subst hs; rfl
  · have e : labelsOf s = splitD s := by rw [labelsOf, if_neg hs]
    rw [e] at h ⊢
    cases hd : splitD s with
    | nil => exact absurd hd (splitD_ne s)
    | cons x r =>
      rw [hd] at h
      rw [zone_join x r (h x (by simp)), ← hd, join_split]
theorem zone_path (s : L) (h : ∀ x ∈ labelsOf s, x ≠ []) (k : Nat) : pathOf (zoneF [] ((labelsOf s).drop k)) = ((labelsOf s).drop k).reverse := by
  cases hd : (labelsOf s).drop k with
  | nil => rfl
  | cons x r =>
    have hm : ∀ y ∈ x :: r, y ∈ labelsOf s := fun y hy => List.mem_of_mem_drop (by rw [hd]; exact hy)
    have hx : x ≠ [] := h x (hm x (by simp))
    have hs : s ≠ [] := fun e => by subst e; simp [labelsOf] at hd
    have e : labelsOf s = splitD s := by rw [labelsOf, if_neg hs]
    have hj : joinL (x :: r) ≠ [] := by
      show x ++ tailJ r ≠ []
      intro e
      exact hx (List.append_eq_nil_iff.1 e).1
    rw [zone_join x r hx, pathOf, labelsOf, if_neg hj, split_join _ (by simp) (fun y hy => splitD_dots s y (e ▸ hm y hy))]
theorem range_one (n a : Nat) (p : Nat → Bool) (ha : a < n) (hp : ∀ o, o < n → (p o = true ↔ o = a)) : (List.range n).filter p = [a] := by
  have key : ∀ m, m ≤ n → (List.range m).filter p = if a < m then [a] else [] := by
    intro m
    induction m with
    | zero => simp
    | succ m ih =>
      intro hm
      rw [List.range_succ, List.filter_append, ih (by omega)]
      by_cases hma : m = a
      · subst hma
        have : p m = true := (hp m (by omega)).2 rfl
        simp [this]
      · have : p m = false := by
          cases h : p m with
          | false => rfl
          | true => exact absurd ((hp m (by omega)).1 h) hma
        by_cases h2 : a < m
        · rw [if_pos h2, if_pos (by omega)]; simp [this]
        · rw [if_neg h2, if_neg (by omega)]; simp [this]
  rw [key n (Nat.le_refl _), if_pos ha]
theorem perm_one (n a : Nat) (ns : List Nat) (hns : ns.Perm (List.range n)) (p : Nat → Bool) (ha : a < n) (hp : ∀ o, o < n → (p o = true ↔ o = a)) : ns.filter p = [a] :=
  List.perm_singleton.1 ((range_one n a p ha hp) ▸ hns.filter p)
/-- The zones of a name, in an order. -/
def ordPs (ls : List L) (ns : List Nat) : List Pat := ns.map fun o => ⟨(ls.drop o).reverse, decide (0 < o), (o : Int)⟩
theorem ord_ids (ls : List L) (ns : List Nat) (q : List L) (b : Bool) : idsAt (ordPs ls ns) q b = (ns.filter fun o => decide ((ls.drop o).reverse = q) && (decide (0 < o)) == b).map fun o => ((o : Nat) : Int) := by
  rw [idsAt, ordPs, List.filter_map, List.map_map]
  rfl
theorem drop_same (ls : List L) (o k : Nat) (ho : o ≤ ls.length) (hk : k ≤ ls.length) : (ls.drop o).reverse = (ls.drop k).reverse ↔ o = k := by
  constructor
  · intro h
    have := congrArg List.length h
    simp at this
    omega
  · rintro rfl; rfl
theorem flat_ones (n : Nat) (f : Nat → Int) : ((List.range n).map fun j => [f j]).reverse.flatten = ((List.range n).map f).reverse := by
  induction n with
  | zero => rfl
  | succ n ih => rw [List.range_succ, List.map_append, List.reverse_append, List.flatten_append, ih]; simp
theorem ord_match (ls : List L) (ns : List Nat) (hns : ns.Perm (List.range (ls.length + 1))) : matchF (ordPs ls ns) ls.reverse = (List.range (ls.length + 1)).map fun o => ((o : Nat) : Int) := by
  have h0 : idsAt (ordPs ls ns) ls.reverse false = [0] := by
    rw [ord_ids, perm_one _ 0 ns hns _ (by omega) (fun o ho => ?_)]
    · rfl
    · rw [Bool.and_eq_true, decide_eq_true_iff]
      constructor
      · rintro ⟨-, h⟩
        simp at h
        omega
      · rintro rfl
        simp
  have hw : wildsF (ordPs ls ns) ls.reverse ls.reverse.length = (List.range ls.length).map fun j => [((ls.length - j : Nat) : Int)] := by
    rw [wildsF, List.length_reverse]
    apply List.map_congr_left
    intro j hj
    have hj := List.mem_range.1 hj
    rw [ord_ids, List.take_reverse, perm_one _ (ls.length - j) ns hns _ (by omega) (fun o ho => ?_)]
    · rfl
    · rw [Bool.and_eq_true, decide_eq_true_iff, drop_same ls o _ (by omega) (by omega)]
      constructor
      · rintro ⟨h, -⟩; exact h
      · intro h
        refine ⟨h, ?_⟩
        simp
        omega
  have hr : ((List.range ls.length).map fun j => ((ls.length - j : Nat) : Int)).reverse = (List.range ls.length).map fun j => ((j + 1 : Nat) : Int) := by
    apply List.ext_getElem (by simp)
    intro i h1 h2
    simp at h1
    rw [List.getElem_reverse]
    simp
    omega
  rw [matchF, h0, hw, flat_ones, hr, List.range_succ_eq_map, List.map_cons, List.map_map]
  rfl
theorem swap_perm (ns : List Nat) (i k : Nat) (hi : i < ns.length) (hk : k < ns.length) : ((ns.set i (ns.getD k 0)).set k (ns.getD i 0)).Perm ns := by
  have h := Array.swap_perm (xs := ns.toArray) (i := i) (j := k) (by simpa using hi) (by simpa using hk)
  have h2 := Array.perm_iff_toList_perm.1 h
  simp [List.getD_eq_getElem?_getD, hi, hk] at h2 ⊢
  exact h2
theorem swap_map (ns : List Nat) (i k : Nat) (hi : i < ns.length) (hk : k < ns.length) : ((ns.map fun o => ((o : Nat) : Int)).set i ((ns.getD k 0 : Nat) : Int)).set k ((ns.getD i 0 : Nat) : Int) = ((ns.set i (ns.getD k 0)).set k (ns.getD i 0)).map fun o => ((o : Nat) : Int) := by
  rw [List.map_set, List.map_set]
theorem perm_lt (n : Nat) (ns : List Nat) (hns : ns.Perm (List.range n)) (i : Nat) (hi : i < ns.length) : ns.getD i 0 < n := by
  have : ns.getD i 0 ∈ ns := by rw [List.getD_eq_getElem?_getD, List.getElem?_eq_getElem hi]; exact List.getElem_mem hi
  exact List.mem_range.1 (hns.mem_iff.1 this)
/-- The zones, as texts. -/
def zonesL (ls : List L) (n : Nat) : List ByteArray := (List.range n).map fun k => mkB (zoneF [] (ls.drop k))
theorem zones_snoc (ls : List L) (n : Nat) : zonesL ls (n + 1) = zonesL ls n ++ [mkB (zoneF [] (ls.drop n))] := by
  rw [zonesL, List.range_succ, List.map_append]; rfl
theorem zones_len (ls : List L) (n : Nat) : (zonesL ls n).length = n := by simp [zonesL]
theorem zones_get (ls : List L) (n k : Nat) (hk : k < n) : (zonesL ls n).getD k ByteArray.empty = mkB (zoneF [] (ls.drop k)) := by
  rw [List.getD_eq_getElem?_getD]
  simp [zonesL, hk]
theorem zone_next (ls : List L) (K k : Nat) (hK : K ≤ k) (hk : k < ls.length) : zoneF [] ((ls.take (k + 1)).drop K) = if zoneF [] ((ls.take k).drop K) = [] then ls.getD k [] else zoneF [] ((ls.take k).drop K) ++ 46 :: ls.getD k [] := by
  rw [take_snoc ls [] k hk, List.drop_append_of_le_length (by rw [List.length_take]; omega), zoneF_snoc]
end Go.Proofs.YtimaliamidgflaaDoor

namespace Go.Proofs.YtimaliamidgflaaDoor
open Go.RowKit Go.Proofs.YtimaliamidgflaaDoorW.PrintWords
set_option linter.unusedVariables false
set_option linter.unusedSimpArgs false
set_option maxRecDepth 100000
set_option maxHeartbeats 1000000

theorem sz_cons (x : L) (r : List L) : sizeOf_ (x :: r) = sizeOf_ r + 1 + x.length := by simp [sizeOf_]; omega
theorem sz_sub {a b : List L} (h : a.Sublist b) : sizeOf_ a ≤ sizeOf_ b := by
  induction h with
  | slnil => exact Nat.le_refl _
  | cons x _ ih => rw [sz_cons]; omega
  | cons_cons x _ ih => rw [sz_cons, sz_cons]; omega
theorem zoneF_len (r : List L) : ∀ z, (zoneF z r).length + 1 ≤ z.length + sizeOf_ r := by
  induction r with
  | nil => intro z; simp [zoneF, sizeOf_]
  | cons x r ih =>
    intro z
    have h := ih (if z = [] then x else z ++ 46 :: x)
    rw [sz_cons]
    show (zoneF (if z = [] then x else z ++ 46 :: x) r).length + 1 ≤ _
    have h2 : (if z = [] then x else z ++ 46 :: x).length ≤ z.length + 1 + x.length := by split <;> simp <;> omega
    omega
theorem sz_two (l : List L) (h : ∀ x ∈ l, x ≠ []) : 2 * l.length + 1 ≤ sizeOf_ l := by
  induction l with
  | nil => simp [sizeOf_]
  | cons x l ih =>
    have h1 := ih fun y hy => h y (List.mem_cons_of_mem _ hy)
    have h2 : 0 < x.length := List.length_pos_iff.2 (h x (by simp))
    rw [sz_cons, List.length_cons]
    omega
theorem sub_zone (ls : List L) (K k : Nat) (n : Nat) (h : sizeOf_ ls ≤ n) : (zoneF [] ((ls.take k).drop K)).length ≤ n := by
  have h1 := zoneF_len ((ls.take k).drop K) []
  have h2 := sz_sub (((ls.take k).drop_sublist K).trans (ls.take_sublist k))
  simp at h1
  omega
theorem right_ne (p : L) (h : rightL p = true) : ∀ x ∈ labelsOf p, x ≠ [] := by
  intro x hx e
  subst e
  have := (right_labels p h).2 [] hx
  simp [label_mk] at this
def castI (ns : List Nat) : List Int := ns.map fun o => ((o : Nat) : Int)
theorem castI_len (ns : List Nat) : (castI ns).length = ns.length := List.length_map ..
theorem castI_get (ns : List Nat) (k : Nat) : rdOf 0 (castI ns) (k : Int) = ((ns.getD k 0 : Nat) : Int) := by
  rw [rdOf, Int.toNat_natCast, castI, List.getD_eq_getElem?_getD, List.getD_eq_getElem?_getD, List.getElem?_map]
  cases ns[k]? <;> rfl
def fillN (n k : Nat) : List Nat := List.range k ++ List.replicate (n - k) 0
theorem fill_zero (n : Nat) : castI (fillN n 0) = List.replicate n 0 := by simp [fillN, castI]
theorem fill_full (n : Nat) : fillN n n = List.range n := by simp [fillN]
theorem fill_len (n k : Nat) (h : k ≤ n) : (fillN n k).length = n := by simp [fillN]; omega
theorem fill_step (n k : Nat) (h : k < n) : (castI (fillN n k)).set k (k : Int) = castI (fillN n (k + 1)) := by
  obtain ⟨m, hm⟩ : ∃ m, n - k = m + 1 := ⟨n - k - 1, by omega⟩
  have h2 : n - (k + 1) = m := by omega
  rw [castI, castI, ← List.map_set, fillN, fillN, hm, h2, List.set_append_right _ _ (by simp), List.length_range, Nat.sub_self, List.range_succ, List.replicate_succ]
  simp
theorem ord_snoc (ls : List L) (ns : List Nat) (k o : Nat) (hk : k < ns.length) (ho : ns.getD k 0 = o) : ordPs ls (ns.take (k + 1)) = ordPs ls (ns.take k) ++ [⟨(ls.drop o).reverse, decide (0 < o), (o : Int)⟩] := by
  rw [take_snoc ns 0 k hk, ordPs, List.map_append, ho]
  rfl
theorem ord_len (ls : List L) (ns : List Nat) (k n : Nat) (hk : k ≤ n) : (ordPs ls (ns.take k)).length ≤ n := by
  rw [ordPs, List.length_map, List.length_take]
  omega
theorem range_get (n i : Nat) (h : i < n) : (castI (List.range n)).getD i 0 = (i : Int) := by
  rw [List.getD_eq_getElem?_getD]
  simp [castI, h]
end Go.Proofs.YtimaliamidgflaaDoor
