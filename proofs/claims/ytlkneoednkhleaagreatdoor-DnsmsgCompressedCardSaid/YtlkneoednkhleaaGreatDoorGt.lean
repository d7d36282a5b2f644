/-
  Several texts of this seat in one: NuA, PlayA, NlA, NbA, Lit, NpA.
-/
import Derived.Test.YtlkneoednkhleaaGreatDoorNameD
import Derived.Test.YtlkneoednkhleaaGreatDoorNameF
import Derived.Test.YtlkneoednkhleaaGreatDoorCx
import Derived.Test.YtlkneoednkhleaaGreatDoorApp
namespace Go.Proofs.YtlkneoednkhleaaGreatDoor
open Go.RowKit Go.Proofs.YtlkneoednkhleaaGreatDoorW.PrintWords
set_option linter.unusedVariables false
set_option linter.unusedSimpArgs false
set_option maxRecDepth 100000
set_option maxHeartbeats 1000000

/-- A zone, label by label. -/
def zoneF : L → List L → L
  | z, [] => z
  | z, x :: r => zoneF (if z = [] then x else z ++ 46 :: x) r
def tailJ (r : List L) : L := (r.map fun x => 46 :: x).flatten
theorem zoneF_ne (z : L) (r : List L) (h : z ≠ []) : zoneF z r = z ++ tailJ r := by
  induction r generalizing z with
  | nil => simp [zoneF, tailJ]
  | cons x r ih =>
    rw [zoneF, if_neg h, ih _ (by simp)]
    simp [tailJ]
/-- Labels, joined. -/
def joinL : List L → L
  | [] => []
  | x :: r => x ++ tailJ r
theorem join_split (s : L) : joinL (splitD s) = s := by
  induction s with
  | nil => rfl
  | cons c s ih =>
    unfold splitD
    split
    · rename_i h
      subst h
      have hne := splitD_ne s
      cases hs : splitD s with
      | nil => exact absurd hs hne
      | cons p ps => rw [hs] at ih; simp only [joinL] at ih ⊢; simp [tailJ] at ih ⊢; exact ih
    · cases hs : splitD s with
      | nil => exact absurd hs (splitD_ne s)
      | cons p ps => rw [hs] at ih; simp only [joinL] at ih ⊢; simp; exact ih
theorem joinL_app (p r : List L) (x : L) (h : p ≠ []) : joinL (p ++ x :: r) = joinL p ++ 46 :: (x ++ tailJ r) := by
  cases p with
  | nil => exact absurd rfl h
  | cons y p => simp [joinL, tailJ]
theorem under_of (s p z : L) (h : s = p ++ 46 :: z) : underL s z = true := by
  unfold underL
  have : Lib.hasSuffix s (46 :: z) = true := by
    subst h
    simp [Lib.hasSuffix]
  rw [this]; simp
theorem under_zone (s : L) (p r : List L) (h : splitD s = p ++ r) : underL s (zoneF [] r) = true := by
  induction r generalizing p with
  | nil => simp [zoneF, underL]
  | cons x r ih =>
    rw [zoneF, if_pos rfl]
    by_cases hx : x = []
    · subst hx
      exact ih (p ++ [[]]) (by rw [h]; simp)
    · rw [zoneF_ne _ _ hx]
      have hj := join_split s
      rw [h] at hj
      cases p with
      | nil => rw [List.nil_append] at hj; simp only [joinL] at hj; rw [hj]; simp [underL]
      | cons y p => rw [joinL_app _ _ _ (by simp)] at hj; exact under_of s _ _ hj.symm
theorem under_labels (s : L) (k : Nat) : underL s (zoneF [] ((labelsOf s).drop k)) = true := by
  unfold labelsOf
  split
  · simp [zoneF, underL]
  · exact under_zone s ((splitD s).take k) _ (List.take_append_drop k _).symm
theorem under_more (m s : L) : underL (m ++ 46 :: s) s = true := under_of _ m _ rfl
theorem under_longer (s : L) : underL s (120 :: s) = false := by
  have h1 : (s == 120 :: s) = false := by
    simp
  have h2 : Lib.hasSuffix s (46 :: 120 :: s) = false := by
    by_cases h : Lib.hasSuffix s (46 :: 120 :: s) = true
    · unfold Lib.hasSuffix at h
      have := (List.isSuffixOf_iff_suffix.1 h).length_le
      simp at this; omega
    · simpa using h
  simp [underL, h1, h2]
theorem under_shorter (s : L) (h : s ≠ []) : underL (120 :: s) s = false := by
  have h0 : s.isEmpty = false := by simpa using h
  have h1 : ((120 : UInt8) :: s == s) = false := by
    simp
  have h2 : Lib.hasSuffix (120 :: s) (46 :: s) = false := by
    by_cases h : Lib.hasSuffix (120 :: s) (46 :: s) = true
    · unfold Lib.hasSuffix at h
      have := (List.isSuffixOf_iff_suffix.1 h).eq_of_length (by simp)
      simp at this
    · simpa using h
  simp [underL, h0, h1, h2]
theorem zoneF_snoc (z : L) (r : List L) (x : L) : zoneF z (r ++ [x]) = if zoneF z r = [] then x else zoneF z r ++ 46 :: x := by
  induction r generalizing z with
  | nil => rfl
  | cons y r ih => simp only [List.cons_append, zoneF]; exact ih _
end Go.Proofs.YtlkneoednkhleaaGreatDoor

namespace Go.Proofs.YtlkneoednkhleaaGreatDoor
open Go.RowKit Go.Proofs.YtlkneoednkhleaaGreatDoorW.PrintWords
set_option linter.unusedVariables false
set_option linter.unusedSimpArgs false
set_option maxRecDepth 100000
set_option maxHeartbeats 1000000

/-- A byte, as a number. -/
def nB (b : UInt8) : Int := (b.toNat : Int)
/-- Is a byte taken? -/
def keepU (o : L) (b : UInt8) : Bool := if b = 46 then !o.isEmpty && o.getLast? != some 46 else !badB (nB b)
def playF : L → L → L
  | [], o => o
  | b :: r, o => if o.length < 60 then playF r (if keepU o b = true then o ++ [b] else o) else o
def trimO (o : L) : L := if o.getLast? = some 46 then o.dropLast else o

theorem splitD_dot (o : L) : splitD (o ++ [46]) = splitD o ++ [[]] := by
  induction o with
  | nil => rfl
  | cons c o ih =>
    rw [List.cons_append]
    unfold splitD
    by_cases h : c = 46
    · rw [if_pos h, if_pos h, ih]; rfl
    · rw [if_neg h, if_neg h, ih]
      cases hs : splitD o with
      | nil => exact absurd hs (splitD_ne o)
      | cons p ps => rfl
theorem splitD_add (o : L) (b : UInt8) (hb : b ≠ 46) (ls : List L) (x : L) (h : splitD o = ls ++ [x]) : splitD (o ++ [b]) = ls ++ [x ++ [b]] := by
  induction o generalizing ls x with
  | nil =>
    cases ls with
    | nil => simp [splitD] at h; subst h; simp [splitD, hb]
    | cons y ls => simp [splitD] at h
  | cons c o ih =>
    rw [List.cons_append]
    unfold splitD at h ⊢
    by_cases hc : c = 46
    · rw [if_pos hc] at h ⊢
      cases ls with
      | nil => simp at h; exact absurd h.2 (splitD_ne o)
      | cons y ls =>
        simp at h
        rw [ih ls x h.2, ← h.1]; rfl
    · rw [if_neg hc] at h ⊢
      cases hs : splitD o with
      | nil => exact absurd hs (splitD_ne o)
      | cons p ps =>
        rw [hs] at h
        cases ls with
        | nil =>
          simp at h
          obtain ⟨h1, h2⟩ := h
          subst h2
          rw [ih [] p (by rw [hs]; rfl)]
          simp [← h1]
        | cons y ls =>
          simp at h
          rw [ih (p :: ls) x (by rw [hs, h.2]; rfl)]
          simp [← h.1]
theorem last_le (o : L) (ls : List L) (x : L) (h : splitD o = ls ++ [x]) : x.length ≤ o.length := by
  have h1 := splitD_sz o
  rw [h] at h1
  simp [sizeOf_] at h1
  omega
theorem label_mk (x : L) : labelB (mkB x) = (decide (1 ≤ x.length) && decide (x.length ≤ 63) && !((x.map nB).any badB)) := by
  unfold labelB
  rw [mkB_size]
  rfl
structure GoodO (o : L) : Prop where
  len : o.length ≤ 60
  ex : ∃ ls x, splitD o = ls ++ [x] ∧ (∀ y ∈ ls, labelB (mkB y) = true) ∧ (x.map nB).any badB = false ∧ (x = [] → o = [] ∨ o.getLast? = some 46)
theorem good_nil : GoodO [] := ⟨by decide, [], [], rfl, (by simp), rfl, fun _ => .inl rfl⟩
theorem label_ok (x : L) (h0 : x ≠ []) (h1 : x.length ≤ 60) (h2 : (x.map nB).any badB = false) : labelB (mkB x) = true := by
  rw [label_mk, h2]
  have : 1 ≤ x.length := by cases x with | nil => exact absurd rfl h0 | cons _ _ => simp
  simp; omega
theorem good_step (o : L) (b : UInt8) (h : GoodO o) (hl : o.length < 60) (hk : keepU o b = true) : GoodO (o ++ [b]) := by
  obtain ⟨-, ls, x, h1, h2, h3, h4⟩ := h
  have hx := last_le o ls x h1
  refine ⟨by simp; omega, ?_⟩
  unfold keepU at hk
  by_cases hb : b = 46
  · subst hb
    rw [if_pos rfl] at hk
    have hx0 : x ≠ [] := by
      intro e
      rcases h4 e with e | e
      · subst e; simp at hk
      · rw [e] at hk; simp at hk
    refine ⟨ls ++ [x], [], by rw [splitD_dot, h1], ?_, rfl, fun _ => .inr (by simp)⟩
    intro y hy
    rcases List.mem_append.1 hy with hy | hy
    · exact h2 y hy
    · rw [List.mem_singleton.1 hy]; exact label_ok x hx0 (by omega) h3
  · rw [if_neg hb] at hk
    refine ⟨ls, x ++ [b], splitD_add o b hb ls x h1, h2, ?_, fun e => by simp at e⟩
    rw [List.map_append, List.any_append, h3]
    simpa using hk
theorem play_good (s o : L) (h : GoodO o) : GoodO (playF s o) := by
  induction s generalizing o with
  | nil => exact h
  | cons b r ih =>
    rw [playF]
    split
    · rename_i hl
      split
      · rename_i hk; exact ih _ (good_step o b h hl hk)
      · exact ih _ h
    · exact h
theorem right_of (o : L) (hl : o.length ≤ 60) (h : o = [] ∨ ∀ y ∈ splitD o, labelB (mkB y) = true) : rightL o = true := by
  unfold rightL labelsOf
  by_cases h0 : o = []
  · rw [if_pos h0]; decide
  · rw [if_neg h0]
    rcases h with h | h
    · exact absurd h h0
    · rw [splitD_sz]
      have : (splitD o).any (fun x => !labelB (mkB x)) = false := by
        rw [List.any_eq_false]
        intro y hy
        simp [h y hy]
      rw [this]; simp; omega
theorem trim_right (o : L) (h : GoodO o) : rightL (trimO o) = true ∧ (trimO o).length ≤ 60 := by
  obtain ⟨hl, ls, x, h1, h2, h3, h4⟩ := h
  have hx := last_le o ls x h1
  unfold trimO
  split
  · rename_i hd
    obtain ⟨o', ho⟩ : ∃ o', o = o' ++ [46] := by
      rw [List.getLast?_eq_some_iff] at hd
      exact hd
    subst ho
    rw [List.dropLast_concat]
    simp at hl
    refine ⟨right_of o' (by omega) (.inr ?_), by omega⟩
    rw [splitD_dot] at h1
    have := (List.append_inj' h1 rfl).1
    rw [this]; exact h2
  · rename_i hd
    refine ⟨right_of o hl ?_, hl⟩
    by_cases h0 : o = []
    · exact .inl h0
    · right
      have hx0 : x ≠ [] := by
        intro e
        rcases h4 e with e | e
        · exact h0 e
        · exact hd e
      rw [h1]
      intro y hy
      rcases List.mem_append.1 hy with hy | hy
      · exact h2 y hy
      · rw [List.mem_singleton.1 hy]; exact label_ok x hx0 (by omega) h3
/-- The name that a law makes of a text. -/
def playN (s : L) : L := trimO (playF s [])
theorem playN_right (s : L) : rightL (playN s) = true ∧ (playN s).length ≤ 60 := trim_right _ (play_good s [] good_nil)
end Go.Proofs.YtlkneoednkhleaaGreatDoor

namespace Go.Proofs.YtlkneoednkhleaaGreatDoor
open Go.RowKit Go.Proofs.YtlkneoednkhleaaGreatDoorW.PrintWords
set_option linter.unusedVariables false
set_option linter.unusedSimpArgs false
set_option maxRecDepth 100000
set_option maxHeartbeats 1000000

theorem splitD_skip (c : UInt8) (l : L) (p : L) (ps : List L) (hc : c ≠ 46) (h : splitD l = p :: ps) : splitD (c :: l) = (c :: p) :: ps := by
  rw [splitD, if_neg hc, h]
theorem splitD_nodot (x : L) (h : ∀ c ∈ x, c ≠ 46) : splitD x = [x] := by
  induction x with
  | nil => rfl
  | cons c x ih =>
    unfold splitD
    rw [if_neg (h c (by simp)), ih (fun d hd => h d (by simp [hd]))]
theorem splitD_cat (x s : L) (h : ∀ c ∈ x, c ≠ 46) : splitD (x ++ 46 :: s) = x :: splitD s := by
  induction x with
  | nil => simp [splitD]
  | cons c x ih =>
    rw [List.cons_append]
    exact splitD_skip c _ x _ (h c (by simp)) (ih (fun d hd => h d (by simp [hd])))
theorem split_join (ls : List L) (h0 : ls ≠ []) (h : ∀ x ∈ ls, ∀ c ∈ x, c ≠ 46) : splitD (joinL ls) = ls := by
  induction ls with
  | nil => exact absurd rfl h0
  | cons x r ih =>
    cases r with
    | nil => simp only [joinL, tailJ, List.map_nil, List.flatten_nil, List.append_nil]; exact splitD_nodot x (h x (by simp))
    | cons y r =>
      have : joinL (x :: y :: r) = x ++ 46 :: joinL (y :: r) := by simp [joinL, tailJ]
      rw [this, splitD_cat x _ (h x (by simp)), ih (by simp) (fun z hz => h z (by simp [hz]))]
theorem joinTail_tailJ (r : List L) : Lib.joinTail [46] r = tailJ r := rfl
theorem nameOf_join (ls : List L) : nameOf ls = joinL ls := by
  unfold nameOf
  cases ls with
  | nil => rfl
  | cons x r => rw [Lib.join_cons, joinTail_tailJ]; rfl
/-- A label of so many x. -/
def xs1 (z : Nat) : L := List.replicate z 120
theorem xs1_dot (z : Nat) : ∀ c ∈ xs1 z, c ≠ 46 := by
  intro c hc
  rw [List.eq_of_mem_replicate hc]; decide
theorem xs1_label (z : Nat) : labelB (mkB (xs1 z)) = (decide (1 ≤ z) && decide (z ≤ 63)) := by
  unfold labelB
  have h1 : (mkB (xs1 z)).size = z := by rw [mkB_size]; simp [xs1]
  have h2 : (bytesOf (mkB (xs1 z))).any badB = false := by
    rw [List.any_eq_false]
    intro c hc
    simp only [bytesOf, mkB_toList, xs1, List.map_replicate] at hc
    rw [List.eq_of_mem_replicate hc]; decide
  rw [h1, h2]; simp
/-- The name of so many labels of so many x. -/
def longN (n z : Nat) : L := joinL (List.replicate n (xs1 z))
theorem labels_long (n z : Nat) (hn : 0 < n) (hz : 0 < z) : labelsOf (longN n z) = List.replicate n (xs1 z) := by
  unfold labelsOf longN
  obtain ⟨k, rfl⟩ : ∃ k, n = k + 1 := ⟨n - 1, by omega⟩
  rw [if_neg, split_join _ (by simp) (fun x hx => by rw [List.eq_of_mem_replicate hx]; exact xs1_dot z)]
  rw [List.replicate_succ]
  obtain ⟨m, rfl⟩ : ∃ m, z = m + 1 := ⟨z - 1, by omega⟩
  simp [joinL, xs1, List.replicate_succ]
theorem size_long (n z : Nat) : sizeOf_ (List.replicate n (xs1 z)) = 1 + n * (z + 1) := by
  simp [sizeOf_, xs1, List.map_replicate, List.sum_replicate_nat, Nat.add_comm]
theorem right_long (n z : Nat) (hn : 0 < n) (hz : 0 < z) : rightL (longN n z) = (decide (z ≤ 63) && decide (n * (z + 1) + 1 ≤ 255)) := by
  unfold rightL
  rw [labels_long n z hn hz, size_long]
  have : (List.replicate n (xs1 z)).any (fun x => !labelB (mkB x)) = !decide (z ≤ 63) := by
    obtain ⟨k, rfl⟩ : ∃ k, n = k + 1 := ⟨n - 1, by omega⟩
    have h1 : decide (1 ≤ z) = true := by simp; omega
    rw [List.any_replicate, if_neg (by omega), xs1_label, h1]
    simp
  rw [this, Nat.add_comm 1]
  simp [Bool.and_comm]
theorem wire_cons (x : L) (l : List L) : wireOf (x :: l) = ((x.length : Int) :: x.map fun b => (b.toNat : Int)) ++ wireOf l := by simp [wireOf]
theorem wire_drop (n z j : Nat) (hj : j ≤ n) : (wireOf (List.replicate n (xs1 z)) ++ [0]).drop (j * (z + 1)) = wireOf (List.replicate (n - j) (xs1 z)) ++ [0] := by
  induction j with
  | zero => simp
  | succ j ih =>
    obtain ⟨k, hk⟩ : ∃ k, n - j = k + 1 := ⟨n - j - 1, by omega⟩
    have h2 : n - (j + 1) = k := by omega
    rw [Nat.add_mul, Nat.one_mul, ← List.drop_drop, ih (by omega), hk, h2, List.replicate_succ, wire_cons, List.append_assoc, List.drop_append]
    simp [xs1]
theorem low_xs (z : Nat) : lowL ((xs1 z).map fun b => (b.toNat : Int)) = xs1 z := by
  simp [xs1, lowL, List.map_replicate, lowB]
theorem long_len (n z : Nat) : (wireOf (List.replicate n (xs1 z)) ++ [0]).length = n * (z + 1) + 1 := by
  rw [List.length_append, List.length_singleton, wire_len, size_long]; omega
section
variable (n z j : Nat) (hj : j < n) (hz : 0 < z) (hz7 : z ≤ 70)
include hj
theorem long_get : (wireOf (List.replicate n (xs1 z)) ++ [0]).getD (j * (z + 1)) 0 = (z : Int) := by
  have h := congrArg (fun l => l.getD 0 0) (wire_drop n z j (by omega))
  obtain ⟨k, hk⟩ : ∃ k, n - j = k + 1 := ⟨n - j - 1, by omega⟩
  rw [hk, List.replicate_succ, wire_cons] at h
  simpa [List.getD_eq_getElem?_getD, xs1] using h
theorem long_lab : lab (wireOf (List.replicate n (xs1 z)) ++ [0]) ((j * (z + 1) : Nat) : Int) (z : Int) = xs1 z := by
  have h := congrArg (fun l => (l.drop 1).take z) (wire_drop n z j (by omega))
  obtain ⟨k, hk⟩ : ∃ k, n - j = k + 1 := ⟨n - j - 1, by omega⟩
  rw [hk, List.replicate_succ, wire_cons] at h
  unfold lab
  have ha : (((j * (z + 1) : Nat) : Int) + 1).toNat = j * (z + 1) + 1 := by omega
  rw [ha]
  simp only [List.drop_drop] at h
  rw [Int.toNat_natCast, h]
  have hx : ((xs1 z).map fun b => (b.toNat : Int)).length = z := by simp [xs1]
  simp only [List.cons_append, List.drop_succ_cons, List.drop_zero, List.append_assoc]
  rw [List.take_append_of_le_length (by omega), List.take_of_length_le (by omega)]
  exact low_xs z
end
theorem long_steps (n z j K : Nat) (hj : j ≤ n) (hz : 0 < z) (hz6 : z ≤ 63) (hs : 1 + j * (z + 1) ≤ 255) :
    readF (K + j) (wireOf (List.replicate n (xs1 z)) ++ [0]) 0 0 (-1) [] = readF K (wireOf (List.replicate n (xs1 z)) ++ [0]) ((j * (z + 1) : Nat) : Int) 0 (-1) (List.replicate j (xs1 z)) := by
  induction j generalizing K with
  | zero => simp
  | succ j ih =>
    have hm : (j + 1) * (z + 1) = j * (z + 1) + (z + 1) := by rw [Nat.add_mul, Nat.one_mul]
    have hle : (j + 1) * (z + 1) ≤ n * (z + 1) := Nat.mul_le_mul_right _ hj
    rw [show K + (j + 1) = (K + 1) + j by omega, ih (K + 1) (by omega) (by omega)]
    have hg := long_get n z j (by omega)
    have hl := long_lab n z j (by omega)
    have hlen := long_len n z
    have hE : readE (wireOf (List.replicate n (xs1 z)) ++ [0]) ((j * (z + 1) : Nat) : Int) (z : Int) (List.replicate j (xs1 z)) = .none := by
      unfold readE
      rw [hlen, hl, xs1_label, ← List.replicate_succ', size_long, if_neg (by omega), if_neg (by simp; omega), if_neg (by omega)]
    rw [readF, hlen, if_neg (by omega), Int.toNat_natCast, hg, if_neg (by omega), if_pos (by omega), if_pos hE, hl, ← List.replicate_succ']
    congr 1
    omega
/-- What read answers at a long name. -/
theorem long_read (n z : Nat) (hn : 0 < n) (hn2 : n ≤ 130) (hz : 0 < z) (hz7 : z ≤ 70) :
    ∃ nm en er, readF ((0 : Int).toNat * 300 + 301) (wireOf (List.replicate n (xs1 z)) ++ [0]) 0 0 (-1) [] = (nm, en, er) ∧
      ((z ≤ 63 ∧ n * (z + 1) + 1 ≤ 255 ∧ nm = longN n z ∧ er = .none) ∨ (¬ z ≤ 63 ∧ ∃ a c, er = .fault a c) ∨ (¬ n * (z + 1) + 1 ≤ 255 ∧ z ≤ 63 ∧ ∃ a, er = .fault a 13)) := by
  have hlen := long_len n z
  by_cases h6 : z ≤ 63
  · by_cases h2 : n * (z + 1) + 1 ≤ 255
    · refine ⟨longN n z, ((n * (z + 1) : Nat) : Int) + 1, .none, ?_, .inl ⟨h6, h2, rfl, rfl⟩⟩
      have h3 : n ≤ n * (z + 1) := Nat.le_mul_of_pos_right n (by omega)
      rw [show (0 : Int).toNat * 300 + 301 = (300 - n + 1) + n by simp; omega, long_steps n z n _ (by omega) hz h6 (by omega), readF, hlen, if_neg (by omega), Int.toNat_natCast]
      have hg := congrArg (fun l => l.getD 0 0) (wire_drop n z n (by omega))
      have hg0 : (wireOf (List.replicate n (xs1 z)) ++ [0]).getD (n * (z + 1)) 0 = 0 := by simpa [List.getD_eq_getElem?_getD, wireOf] using hg
      rw [if_pos hg0, nameOf_join, if_pos (by decide)]
      rfl
    · have hJ : 254 / (z + 1) < n := by
        rw [Nat.div_lt_iff_lt_mul (by omega)]
        omega
      have hJ1 : 254 / (z + 1) * (z + 1) ≤ 254 := Nat.div_mul_le_self _ _
      have hJ2 : 254 < (254 / (z + 1) + 1) * (z + 1) := by
        have := Nat.lt_div_mul_add (a := 254) (b := z + 1) (by omega)
        rw [Nat.add_mul, Nat.one_mul]; exact this
      generalize 254 / (z + 1) = J at hJ hJ1 hJ2
      have hm : (J + 1) * (z + 1) = J * (z + 1) + (z + 1) := by rw [Nat.add_mul, Nat.one_mul]
      have hle : (J + 1) * (z + 1) ≤ n * (z + 1) := Nat.mul_le_mul_right _ hJ
      have hJl : J ≤ J * (z + 1) := Nat.le_mul_of_pos_right J (by omega)
      have hg := long_get n z J hJ
      have hl := long_lab n z J hJ
      have hE : readE (wireOf (List.replicate n (xs1 z)) ++ [0]) ((J * (z + 1) : Nat) : Int) (z : Int) (List.replicate J (xs1 z)) = .fault ((J * (z + 1) : Nat) : Int) 13 := by
        unfold readE
        rw [hlen, hl, xs1_label, ← List.replicate_succ', size_long, if_neg (by omega), if_neg (by simp; omega), if_pos (by omega)]
      refine ⟨[], 0, .fault ((J * (z + 1) : Nat) : Int) 13, ?_, .inr (.inr ⟨h2, h6, _, rfl⟩)⟩
      rw [show (0 : Int).toNat * 300 + 301 = (300 - J + 1) + J by simp; omega, long_steps n z J _ (by omega) hz h6 (by omega), readF, hlen, if_neg (by omega), Int.toNat_natCast, hg, if_neg (by omega), if_pos (by omega), if_neg (by rw [hE]; simp), hE]
  · refine ⟨[], 0, .fault 0 12, ?_, .inr (.inl ⟨h6, _, _, rfl⟩)⟩
    have hg := long_get n z 0 hn
    rw [Nat.zero_mul] at hg
    rw [show (0 : Int).toNat * 300 + 301 = 300 + 1 by rfl, readF, hlen, if_neg (by omega), show (0 : Int).toNat = 0 by rfl, hg, if_neg (by omega), if_neg (by omega), if_neg (by omega)]
end Go.Proofs.YtlkneoednkhleaaGreatDoor

namespace Go.Proofs.YtlkneoednkhleaaGreatDoor
open Go.RowKit Go.Proofs.YtlkneoednkhleaaGreatDoorW.PrintWords
set_option linter.unusedVariables false
set_option linter.unusedSimpArgs false
set_option maxRecDepth 100000
set_option maxHeartbeats 1000000

/-- A byte, made a capital if that is asked. -/
def capB (u : Bool) (c : Int) : Int := if u = true ∧ 97 ≤ c ∧ c ≤ 122 then c - 32 else c
def capL : List Bool → List Int → List Int
  | _, [] => []
  | [], c :: w => c :: w
  | u :: us, c :: w => capB u c :: capL us w
theorem capL_len (us : List Bool) (w : List Int) : (capL us w).length = w.length := by
  induction us generalizing w with
  | nil => cases w <;> rfl
  | cons u us ih => cases w with | nil => rfl | cons c w => simp [capL, ih]
theorem capL_nil (w : List Int) : capL [] w = w := by cases w <;> rfl
theorem capL_app (us : List Bool) (x y : List Int) : capL us (x ++ y) = capL us x ++ capL (us.drop x.length) y := by
  induction x generalizing us with
  | nil => simp [capL]
  | cons c x ih =>
    cases us with
    | nil => simp [capL_nil]
    | cons u us => simp [capL, ih]
theorem capB_low (u : Bool) (c : Int) (h : ¬ (65 ≤ c ∧ c ≤ 90)) : lowB (capB u c) = c := by
  unfold lowB capB
  by_cases hu : u = true ∧ 97 ≤ c ∧ c ≤ 122
  · rw [if_pos hu]; split <;> omega
  · rw [if_neg hu, if_neg h]
theorem capB_byte (u : Bool) (c : Int) (h : 0 ≤ c ∧ c < 256) : 0 ≤ capB u c ∧ capB u c < 256 := by
  unfold capB
  split <;> omega
/-- Labels as they are written, letters in any case. -/
inductive CapW : List L → List Int → Prop
  | nil : CapW [] []
  | cons (x : L) (u : List Int) (ls : List L) (ys : List Int) : u.length = x.length → lowL u = x → CapW ls ys → CapW (x :: ls) (((x.length : Int) :: u) ++ ys)
theorem CapW.len {ls : List L} {ys : List Int} (h : CapW ls ys) : ys.length + 1 = sizeOf_ ls := by
  induction h with
  | nil => rfl
  | cons x u ls ys h1 h2 h3 ih => simp [sizeOf_] at ih ⊢; omega
theorem low_cap (us : List Bool) (x : L) (h : (x.map nB).any badB = false) : lowL (capL us (x.map nB)) = x := by
  induction x generalizing us with
  | nil => simp [capL, lowL]
  | cons c x ih =>
    rw [List.map_cons, List.any_cons, Bool.or_eq_false_iff] at h
    obtain ⟨h1, h2⟩ := h
    have hc : ¬ (65 ≤ nB c ∧ nB c ≤ 90) := by
      intro ⟨e1, e2⟩
      simp [badB, e1, e2] at h1
    have hn : ∀ u, UInt8.ofNat (lowB (capB u (nB c))).toNat = c := by
      intro u
      rw [capB_low u _ hc]
      simp [nB]
    cases us with
    | nil =>
      have := ih [] h2
      rw [capL_nil] at this ⊢
      rw [List.map_cons]
      have h3 := hn false
      simp only [capB, Bool.false_eq_true, false_and, if_false] at h3
      simp only [lowL, List.map_cons] at this ⊢
      rw [h3, this]
    | cons u us =>
      have := ih us h2
      rw [List.map_cons, capL]
      simp only [lowL, List.map_cons] at this ⊢
      rw [hn u, this]
theorem cap_wire (ls : List L) (us : List Bool) (h : ∀ x ∈ ls, labelB (mkB x) = true) : CapW ls (capL us (wireOf ls)) := by
  induction ls generalizing us with
  | nil => cases us <;> exact CapW.nil
  | cons x ls ih =>
    have hx := h x (by simp)
    rw [label_mk] at hx
    simp only [Bool.and_eq_true, decide_eq_true_eq, Bool.not_eq_true'] at hx
    obtain ⟨⟨-, h63⟩, hb⟩ := hx
    rw [wire_cons, capL_app]
    have hl : (((x.length : Int) :: x.map fun b => (b.toNat : Int)) : List Int).length = x.length + 1 := by simp
    have e : ∃ us', capL us ((x.length : Int) :: x.map fun b => (b.toNat : Int)) = (x.length : Int) :: capL us' (x.map nB) := by
      cases us with
      | nil => exact ⟨[], by rw [capL_nil, capL_nil]; rfl⟩
      | cons u us =>
        refine ⟨us, ?_⟩
        rw [capL]
        have : capB u (x.length : Int) = x.length := by unfold capB; rw [if_neg]; omega
        rw [this]; rfl
    obtain ⟨us', e⟩ := e
    rw [e]
    exact CapW.cons x _ ls _ (by rw [capL_len]; simp) (low_cap us' x hb) (ih _ (fun y hy => h y (by simp [hy])))
theorem getD_drop (xs : List Int) (a : Nat) (c : Int) (r : List Int) (h : xs.drop a = c :: r) : xs.getD a 0 = c := by
  have := congrArg (fun l => l.getD 0 0) h
  simpa [List.getD_eq_getElem?_getD] using this
theorem drop_len (xs : List Int) (a : Nat) (r : List Int) (h : xs.drop a = r) (h0 : r ≠ []) : xs.length = a + r.length := by
  have := congrArg List.length h
  rw [List.length_drop] at this
  have : 0 < r.length := List.length_pos_iff.2 h0
  omega
theorem read_caps (ls : List L) (ys : List Int) (h : CapW ls ys) (ls0 : List L) (K : Nat) (xs : List Int) (a : Nat) (b e : Int) (rest : List Int) (hd : xs.drop a = ys ++ 0 :: rest)
    (hl : ∀ x ∈ ls, labelB (mkB x) = true) (hs : sizeOf_ (ls0 ++ ls) ≤ 255) :
    readF (K + ls.length + 1) xs (a : Int) b e ls0 = (nameOf (ls0 ++ ls), if e < 0 then ((a + ys.length + 1 : Nat) : Int) else e, .none) := by
  induction h generalizing ls0 K a with
  | nil =>
    have hlen := drop_len xs a _ hd (by simp)
    have hg := getD_drop xs a 0 rest hd
    rw [readF, if_neg (by rw [hlen]; simp; omega), Int.toNat_natCast, if_pos hg]
    simp
  | cons x u ls ys h1 h2 h3 ih =>
    have hlen := drop_len xs a _ hd (by simp)
    simp only [List.length_append, List.length_cons] at hlen
    have hg : xs.getD a 0 = (x.length : Int) := getD_drop xs a _ _ (by rw [hd]; rfl)
    have hx := hl x (by simp)
    have hx' := hx
    rw [labelB, mkB_size] at hx
    simp only [Bool.and_eq_true, decide_eq_true_eq] at hx
    obtain ⟨⟨hx1, hx63⟩, -⟩ := hx
    have hd1 : xs.drop (a + 1) = u ++ (ys ++ 0 :: rest) := by
      rw [← List.drop_drop, hd]; simp
    have hlab : lab xs (a : Int) (x.length : Int) = x := by
      unfold lab
      rw [show ((a : Int) + 1).toNat = a + 1 by omega, hd1, Int.toNat_natCast, ← h1, List.take_left']
      · exact h2
      · rfl
    have hE : readE xs (a : Int) (x.length : Int) ls0 = .none := by
      have hsz : sizeOf_ (ls0 ++ [x]) ≤ sizeOf_ (ls0 ++ x :: ls) := by simp [sizeOf_]
      unfold readE
      rw [hlab, hx', if_neg (show ¬ ((xs.length : Int) - (x.length : Int) < (a : Int) + 1) by omega), if_neg (show ¬ (true = false) by simp), if_neg (show ¬ 255 < sizeOf_ (ls0 ++ [x]) by omega)]
    have hd2 : xs.drop (a + 1 + x.length) = ys ++ 0 :: rest := by
      rw [← List.drop_drop, hd1, ← h1, List.drop_left']; rfl
    have ih' := ih (ls0 ++ [x]) K (a + 1 + x.length) hd2 (fun y hy => hl y (by simp [hy])) (by rw [List.append_assoc]; exact hs)
    rw [List.length_cons, show K + (ls.length + 1) + 1 = (K + ls.length + 1) + 1 by omega, readF, if_neg (by rw [hlen]; simp; omega), Int.toNat_natCast, hg, if_neg (by omega), if_pos (by omega), if_pos hE, hlab]
    rw [show (a : Int) + 1 + (x.length : Int) = ((a + 1 + x.length : Nat) : Int) by simp, ih', List.append_assoc]
    simp only [List.cons_append, List.nil_append, List.length_cons, List.length_append, h1]
    congr 2
    split
    · omega
    · rfl
theorem labels_len (ls : List L) (h : ∀ x ∈ ls, labelB (mkB x) = true) : ls.length ≤ sizeOf_ ls := by
  induction ls with
  | nil => simp
  | cons x ls ih => have := ih (fun y hy => h y (by simp [hy])); simp [sizeOf_] at this ⊢; omega
theorem right_labels (s : L) (h : rightL s = true) : sizeOf_ (labelsOf s) ≤ 255 ∧ ∀ x ∈ labelsOf s, labelB (mkB x) = true := by
  unfold rightL at h
  simp only [Bool.and_eq_true, decide_eq_true_eq, Bool.not_eq_true'] at h
  refine ⟨h.1, fun x hx => ?_⟩
  have := List.any_eq_false.1 h.2 x hx
  simpa using this
theorem name_labels (s : L) : nameOf (labelsOf s) = s := by
  rw [nameOf_join]
  unfold labelsOf
  split
  · rename_i h; rw [h]; rfl
  · exact join_split s
/-- The first of the two reads. -/
theorem back_read (s : L) (hr : rightL s = true) (us : List Bool) (ah rest : List Int) :
    readF ((ah.length : Int).toNat * 300 + 301) (ah ++ (capL us (wireOf (labelsOf s)) ++ 0 :: rest)) (ah.length : Int) (ah.length : Int) (-1) [] = (s, ((ah.length + (wireOf (labelsOf s)).length + 1 : Nat) : Int), .none) := by
  obtain ⟨hs, hl⟩ := right_labels s hr
  have hc := cap_wire _ us hl
  have hn := labels_len _ hl
  have h := read_caps _ _ hc [] ((ah.length : Int).toNat * 300 + 300 - (labelsOf s).length) (ah ++ (capL us (wireOf (labelsOf s)) ++ 0 :: rest)) ah.length (ah.length : Int) (-1) rest (by simp) hl hs
  rw [show (ah.length : Int).toNat * 300 + 300 - (labelsOf s).length + (labelsOf s).length + 1 = (ah.length : Int).toNat * 300 + 301 by omega, List.nil_append, name_labels, if_pos (by decide), capL_len] at h
  exact h
def zName (s : L) : L := if s = [] then [122] else 122 :: 46 :: s
/-- The second. -/
theorem back_point (s : L) (hr : rightL s = true) (hl60 : s.length ≤ 60) (us : List Bool) (ah bh : List Int) (h5 : ah.length ≤ 500) (b : List Int) (hb : b = ah ++ (capL us (wireOf (labelsOf s)) ++ 0 :: bh)) :
    readF ((b.length : Int).toNat * 300 + 301) (b ++ [1, 122, 192 + (ah.length : Int) / 256, (ah.length : Int) % 256]) (b.length : Int) (b.length : Int) (-1) [] = (zName s, (b.length : Int) + 4, .none) := by
  obtain ⟨hs, hl⟩ := right_labels s hr
  have hc := cap_wire _ us hl
  have hn := labels_len _ hl
  have hbl : b.length = ah.length + (wireOf (labelsOf s)).length + 1 + bh.length := by rw [hb]; simp [capL_len]; omega
  have hd : ∀ i : Nat, (b ++ [1, 122, 192 + (ah.length : Int) / 256, (ah.length : Int) % 256]).drop (b.length + i) = ([1, 122, 192 + (ah.length : Int) / 256, (ah.length : Int) % 256] : List Int).drop i := by
    intro i
    rw [List.drop_append, List.drop_eq_nil_of_le (by omega)]
    simp
  have hd0 : (b ++ [1, 122, 192 + (ah.length : Int) / 256, (ah.length : Int) % 256]).drop ah.length = capL us (wireOf (labelsOf s)) ++ 0 :: (bh ++ [1, 122, 192 + (ah.length : Int) / 256, (ah.length : Int) % 256]) := by
    rw [hb]; simp
  have hlen : (b ++ [1, 122, 192 + (ah.length : Int) / 256, (ah.length : Int) % 256]).length = b.length + 4 := by simp
  generalize b ++ [1, 122, 192 + (ah.length : Int) / 256, (ah.length : Int) % 256] = xs at hd hd0 hlen ⊢
  have g0 : xs.getD b.length 0 = 1 := getD_drop xs _ _ _ (hd 0)
  have g2 : xs.getD (b.length + 2) 0 = 192 + (ah.length : Int) / 256 := getD_drop xs _ _ _ (hd 2)
  have hlab : lab xs (b.length : Int) 1 = [122] := by
    unfold lab
    rw [show ((b.length : Int) + 1).toNat = b.length + 1 by omega, hd 1]; rfl
  have hE : readE xs (b.length : Int) 1 [] = .none := by
    unfold readE
    rw [if_neg (by omega), hlab, if_neg (by decide +kernel), if_neg (by decide +kernel)]
  have ha2 : ((b.length : Int) + 1 + 1).toNat = b.length + 2 := by omega
  have hto : leapTo xs ((b.length : Int) + 1 + 1) = (ah.length : Int) := by
    unfold leapTo
    rw [ha2, hd 2]
    show be [192 + (ah.length : Int) / 256, (ah.length : Int) % 256] % 16384 = (ah.length : Int)
    rw [show be [192 + (ah.length : Int) / 256, (ah.length : Int) % 256] = (192 + (ah.length : Int) / 256) * 256 + (ah.length : Int) % 256 by simp [be]]
    omega
  have hleap : leapE xs ((b.length : Int) + 1 + 1) (b.length : Int) = .none := by
    unfold leapE
    rw [if_neg (by omega), hto, if_neg (by omega)]
  have hK : (b.length : Int).toNat * 300 + 301 = ((b.length : Int).toNat * 300 + 298 - (labelsOf s).length + (labelsOf s).length + 1) + 1 + 1 := by omega
  rw [hK, readF, if_neg (by omega), Int.toNat_natCast, g0, if_neg (by decide), if_pos (by decide), if_pos hE, readF, if_neg (by omega), ha2, g2, if_neg (by omega), if_neg (by omega), if_pos (by omega), if_pos hleap, hto, hlab]
  have hw := wire_len (labelsOf s)
  have hsz : sizeOf_ ([] ++ [[122]] ++ labelsOf s) ≤ 255 := by
    have h1 : sizeOf_ (labelsOf s) ≤ s.length + 2 := by
      unfold labelsOf
      split
      · simp [sizeOf_]
      · rw [splitD_sz]; exact Nat.le_refl _
    simp [sizeOf_] at h1 ⊢; omega
  have h := read_caps _ _ hc ([] ++ [[122]]) ((b.length : Int).toNat * 300 + 298 - (labelsOf s).length) xs ah.length (ah.length : Int) ((b.length : Int) + 1 + 1 + 2) _ hd0 hl hsz
  rw [Int.toNat_natCast] at h
  rw [if_pos (by decide), h, if_neg (by omega)]
  have hz : nameOf ([] ++ [[122]] ++ labelsOf s) = zName s := by
    rw [nameOf_join]
    unfold zName labelsOf
    by_cases h0 : s = []
    · rw [if_pos h0, if_pos h0]; rfl
    · rw [if_neg h0, if_neg h0]
      have hj := join_split s
      cases hs2 : splitD s with
      | nil => exact absurd hs2 (splitD_ne s)
      | cons p ps => rw [hs2] at hj; rw [← hj]; simp [joinL, tailJ]
  rw [hz]
  congr 2
end Go.Proofs.YtlkneoednkhleaaGreatDoor

namespace Go.Proofs.YtlkneoednkhleaaGreatDoor
open Go.RowKit Go.Proofs.YtlkneoednkhleaaGreatDoorW.PrintWords
set_option linter.unusedVariables false
set_option linter.unusedSimpArgs false
set_option maxRecDepth 100000
set_option maxHeartbeats 1000000

theorem lit_bytes (W : World) (base : Nat) (xs : List Int) (hb : base ≤ W.heap.size) (hm : xs.length ≤ 9223372036854775807) :
    (Kd.int .u8).R 5 (W.alloc (.cells (xs.map (Value.int .u8)).toArray 5)) base (fun _ => True) (.slice (some ⟨W.heap.size, 0, none⟩) xs.length xs.length) xs :=
  Kd.R_of_own (by have h := own_lit W base 5 .u8 xs hb hm; simpa [nums, encs] using h) (fun _ _ => trivial)
end Go.Proofs.YtlkneoednkhleaaGreatDoor

namespace Go.Proofs.YtlkneoednkhleaaGreatDoor
open Go.RowKit Go.Proofs.YtlkneoednkhleaaGreatDoorW.PrintWords
set_option linter.unusedVariables false
set_option linter.unusedSimpArgs false
set_option maxRecDepth 100000
set_option maxHeartbeats 1000000

theorem umod (a : Int) (k : Int) (hk : 0 < k) (hk2 : k ≤ 1000000) : ∃ N : Nat, (N : Int) < k ∧ wrap64 ((IntKind.u64.wrap a).tmod k) = (N : Int) := by
  have h0 : 0 ≤ IntKind.u64.wrap a := by rw [IntKind.wrap_u64]; omega
  have h1 : (IntKind.u64.wrap a).tmod k = IntKind.u64.wrap a % k := by
    rw [Int.tmod_eq_emod_of_nonneg h0]
  refine ⟨(IntKind.u64.wrap a % k).toNat, ?_, ?_⟩
  · have := Int.emod_lt_of_pos (IntKind.u64.wrap a) hk
    have := Int.emod_nonneg (IntKind.u64.wrap a) (Int.ne_of_gt hk)
    omega
  · rw [h1]
    have := Int.emod_lt_of_pos (IntKind.u64.wrap a) hk
    have := Int.emod_nonneg (IntKind.u64.wrap a) (Int.ne_of_gt hk)
    unfold wrap64
    omega
def ptrAt (i : Nat) : Int := if i = 0 then 0 else 3 + 4 * ((i : Int) - 1)
def bP (k : Nat) : List Int := [1, 97, 0] ++ ((List.range k).map fun i => [1, 98, 192, ptrAt i]).flatten
theorem bP_succ (k : Nat) : bP (k + 1) = bP k ++ [1, 98, 192, ptrAt k] := by simp [bP, List.range_succ]
theorem bP_len (k : Nat) : (bP k).length = 3 + 4 * k := by
  induction k with
  | zero => rfl
  | succ k ih => rw [bP_succ, List.length_append, ih]; simp; omega
def wantP : Nat → L
  | 0 => [97]
  | k + 1 => 98 :: 46 :: wantP k
section
variable {ops : Array Oper} {rest : List Oper} {o : Oper} {a : Act} {Q : Exit → Act → World → Prop} {w0 W : World} {base : Nat} {v : Value} {s x : Operand}
theorem app_four (hgd : o.guard = none) (ho : o.op = .call { callee := .builtin .append, args := #[s, x], argTypes := #[22, 22] })
    (xs : List Int) (p q r t : Int) (hs : a.eval s = v) (hx : a.eval x = .slice (some ⟨W.heap.size, 0, none⟩) 4 4) (HO : (Kd.int .u8).R 5 W base (fun _ => True) v xs) (HB : Below base w0 W) (hbase : base ≤ W.heap.size) (hl : xs.length + 4 ≤ 140737488355328)
    (h : ∀ v1 w1, Kp ((Kd.int .u8).R 5 w1 base (fun _ => True) v1 (xs ++ [p, q, r, t])) → Kp (Below base w0 w1) → Kp (base ≤ w1.heap.size) → wpList Tryz.prog ops Q rest (a.put o.dst v1) w1) :
    wpList Tryz.prog ops Q (o :: rest) a (W.alloc (.cells #[.int .u8 p, .int .u8 q, .int .u8 r, .int .u8 t] 5)) :=
  app_bytes (w0 := w0) hgd ho xs [p, q, r, t] (some ⟨W.heap.size, 0, none⟩) 4 4 hs hx (Kd.R_below HO ((Below.refl W.heap.size W).alloc (Nat.le_refl _) _)) (R_C (lit_bytes W W.heap.size [p, q, r, t] (Nat.le_refl _) (by simp))).1 (HB.alloc hbase _) (by simp; omega) hl h
end
theorem ptr_pos (k : Nat) (h0 : 0 < k) (hk : k < 40) : bP k ++ [1, 98, 192 + (3 + 4 * ((k : Int) - 1)) / 256, 3 + 4 * ((k : Int) - 1)] = bP (k + 1) := by
  rw [bP_succ, ptrAt, if_neg (by omega)]
  have : (3 + 4 * ((k : Int) - 1)) / 256 = 0 := by omega
  rw [this]; rfl
theorem want_succ (k : Nat) : (⟨#[98, 46]⟩ : ByteArray) ++ mkB (wantP k) = mkB (wantP (k + 1)) := by
  apply ByteArray.ext
  simp [mkB, wantP]
theorem want_sz (k : Nat) : (mkB (wantP k)).size = 2 * k + 1 := by
  have : ∀ k, (wantP k).length = 2 * k + 1 := by
    intro k
    induction k with
    | zero => rfl
    | succ k ih => simp only [wantP, List.length_cons, ih]; omega
  simpa [mkB, ByteArray.size] using this k
theorem readP : ∀ N : Fin 40, readF ((3 + 4 * ((N : Nat) : Int)).toNat * 300 + 301) (bP (N + 1)) (3 + 4 * ((N : Nat) : Int)) (3 + 4 * ((N : Nat) : Int)) (-1) [] = (wantP (N + 1), 3 + 4 * (((N : Nat) : Int) + 1), .none) := by decide +kernel
theorem be_two (x y : Int) : be [x, y] = x * 256 + y := by simp [be]
theorem readY (N : Nat) (t : Int) (h0 : 3 + 4 * (N : Int) ≤ t) (h1 : t ≤ 3000) :
    readF ((3 + 4 * (N : Int)).toNat * 300 + 301) (bP N ++ [1, 98] ++ [192 + t / 256, t % 256]) (3 + 4 * (N : Int)) (3 + 4 * (N : Int)) (-1) [] = ([], 0, .fault (3 + 4 * (N : Int) + 2) 14) := by
  have hl := bP_len N
  have hx : ∀ i : Nat, (bP N ++ [1, 98] ++ [192 + t / 256, t % 256]).drop (3 + 4 * N + i) = ([1, 98, 192 + t / 256, t % 256] : List Int).drop i := by
    intro i
    rw [List.append_assoc, List.drop_append, hl, List.drop_eq_nil_of_le (by omega)]
    simp
  have hg : ∀ i : Nat, (bP N ++ [1, 98] ++ [192 + t / 256, t % 256]).getD (3 + 4 * N + i) 0 = ([1, 98, 192 + t / 256, t % 256] : List Int).getD i 0 := by
    intro i
    have := congrArg (fun l => l.getD 0 0) (hx i)
    simpa [List.getD_eq_getElem?_getD] using this
  generalize hxs : bP N ++ [1, 98] ++ [192 + t / 256, t % 256] = xs at *
  have hlen : xs.length = 3 + 4 * N + 4 := by rw [← hxs]; simp; omega
  have ha : (3 + 4 * (N : Int)).toNat = 3 + 4 * N := by omega
  have ha2 : (3 + 4 * (N : Int) + 1 + 1).toNat = 3 + 4 * N + 2 := by omega
  have g0 : xs.getD (3 + 4 * (N : Int)).toNat 0 = 1 := by rw [ha]; exact hg 0
  have g2 : xs.getD (3 + 4 * (N : Int) + 1 + 1).toNat 0 = 192 + t / 256 := by rw [ha2]; exact hg 2
  have hlab : lab xs (3 + 4 * (N : Int)) 1 = [98] := by
    unfold lab
    have : (3 + 4 * (N : Int) + 1).toNat = 3 + 4 * N + 1 := by omega
    rw [this, hx 1]; rfl
  have hE : readE xs (3 + 4 * (N : Int)) 1 [] = .none := by
    unfold readE
    rw [if_neg (by omega), hlab, if_neg (by decide +kernel), if_neg (by decide +kernel)]
  have hto : leapTo xs (3 + 4 * (N : Int) + 1 + 1) = t := by
    unfold leapTo
    rw [ha2, hx 2]
    show be [192 + t / 256, t % 256] % 16384 = t
    rw [be_two]; omega
  have hleap : leapE xs (3 + 4 * (N : Int) + 1 + 1) (3 + 4 * (N : Int)) = .fault (3 + 4 * (N : Int) + 2) 14 := by
    unfold leapE
    rw [if_neg (by omega), hto, if_pos h0]
    congr 1
  have hK : (3 + 4 * (N : Int)).toNat * 300 + 301 = ((3 + 4 * (N : Int)).toNat * 300 + 299) + 1 + 1 := by omega
  rw [hK, readF, if_neg (by omega), g0, if_neg (by decide), if_pos (by decide), if_pos hE, readF, if_neg (by omega), g2, if_neg (by omega), if_neg (by omega), if_pos (by omega), if_neg (by rw [hleap]; simp), hleap]
theorem bP_take (N : Nat) : (bP (N + 1)).take (3 + 4 * N + 2) = bP N ++ [1, 98] := by
  rw [bP_succ, List.take_append, bP_len, List.take_of_length_le (by rw [bP_len]; omega)]
  have : 3 + 4 * N + 2 - (3 + 4 * N) = 2 := by omega
  rw [this]; rfl
theorem bP_byts : ∀ (N : Nat), N ≤ 40 → Byts (bP N) := by
  intro N
  induction N with
  | zero => intro _; unfold Byts; decide
  | succ k ih =>
    intro h x hx
    rw [bP_succ, List.mem_append] at hx
    rcases hx with hx | hx
    · exact ih (by omega) x hx
    · have : ptrAt k < 256 ∧ 0 ≤ ptrAt k := by unfold ptrAt; split <;> omega
      simp only [List.mem_cons, List.not_mem_nil, or_false] at hx
      rcases hx with rfl | rfl | rfl | rfl <;> omega
theorem readY2 (N M : Nat) (hN : N < 40) (hM : M < 1000) (ys : List Int) (h : ys = bP N ++ [1, 98, 192 + (3 + 4 * (N : Int) + M) / 256, (3 + 4 * (N : Int) + M) % 256]) :
    readF ((3 + 4 * (N : Int)).toNat * 300 + 301) ys (3 + 4 * (N : Int)) (3 + 4 * (N : Int)) (-1) [] = ([], 0, .fault (3 + 4 * (N : Int) + 2) 14) ∧ ys.length = 3 + 4 * N + 4 ∧ Byts ys := by
  have h1 := readY N (3 + 4 * (N : Int) + M) (by omega) (by omega)
  rw [List.append_assoc] at h1
  subst h
  refine ⟨h1, by rw [List.length_append, bP_len]; rfl, ?_⟩
  intro x hx
  rw [List.mem_append] at hx
  rcases hx with hx | hx
  · exact bP_byts N (by omega) x hx
  · simp only [List.mem_cons, List.not_mem_nil, or_false] at hx
    rcases hx with rfl | rfl | rfl | rfl <;> omega
theorem R_cap {α : Type} {d : Kd α} {e base n c : Nat} {ok : Nat → Prop} {w : World} {A : Option Addr} {xs : List α} (h : d.R e w base ok (.slice A n c) xs) : c ≤ 9223372036854775807 := by
  obtain ⟨inner, ho⟩ := Kd.R_own h
  rcases ho.2 with ⟨h1, -⟩ | ⟨g, cap, cur, hv, -, -, -, hm, -⟩
  · injection h1 with _ _ h3; omega
  · injection hv with _ _ h3; subst h3; exact hm
theorem app_two {ops : Array Oper} {rest : List Oper} {o : Oper} {a : Act} {Q : Exit → Act → World → Prop} {w0 W : World} {base : Nat} {v : Value} {s x : Operand} (hgd : o.guard = none) (ho : o.op = .call { callee := .builtin .append, args := #[s, x], argTypes := #[22, 22] })
    (xs : List Int) (p q : Int) (hs : a.eval s = v) (hx : a.eval x = .slice (some ⟨W.heap.size, 0, none⟩) 2 2) (HO : (Kd.int .u8).R 5 W base (fun _ => True) v xs) (HB : Below base w0 W) (hbase : base ≤ W.heap.size) (hl : xs.length + 2 ≤ 140737488355328)
    (h : ∀ v1 w1, Kp ((Kd.int .u8).R 5 w1 base (fun _ => True) v1 (xs ++ [p, q])) → Kp (Below base w0 w1) → Kp (base ≤ w1.heap.size) → wpList Tryz.prog ops Q rest (a.put o.dst v1) w1) :
    wpList Tryz.prog ops Q (o :: rest) a (W.alloc (.cells #[.int .u8 p, .int .u8 q] 5)) :=
  app_bytes (w0 := w0) hgd ho xs [p, q] (some ⟨W.heap.size, 0, none⟩) 2 2 hs hx (Kd.R_below HO ((Below.refl W.heap.size W).alloc (Nat.le_refl _) _)) (R_C (lit_bytes W W.heap.size [p, q] (Nat.le_refl _) (by simp))).1 (HB.alloc hbase _) (by simp; omega) hl h
end Go.Proofs.YtlkneoednkhleaaGreatDoor
