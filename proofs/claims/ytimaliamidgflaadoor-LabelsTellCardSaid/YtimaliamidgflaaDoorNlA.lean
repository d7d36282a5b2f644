/-
  The law NameLong: as long as may be, and no longer: the plain law.
-/
import Derived.Test.YtimaliamidgflaaDoorNuA
import Derived.Test.YtimaliamidgflaaDoorNameF
namespace Go.Proofs.YtimaliamidgflaaDoor
open Go.RowKit Go.Proofs.YtimaliamidgflaaDoorW.PrintWords
set_option linter.unusedVariables false
set_option linter.unusedSimpArgs false
set_option maxRecDepth 100000
set_option maxHeartbeats 1000000

theorem splitD_skip (c : UInt8) (l : L) (p : L) (ps : List L) (hc : c ≠ 46) (h : splitD l = p :: ps) : splitD (c :: l) = (c :: p) :: ps := by
  rw [splitD, if_neg hc, h]
theorem splitD_nodot (x : L) (h : ∀ c ∈ x, c ≠ 46) : splitD x = [x] := by
  induction x with
  | nil => rfl
  | cons c x ih =>
    unfold splitD
    rw [if_neg (h c (by simp)), ih (fun d hd => h d (by simp [hd]))]
theorem splitD_cat (x s : L) (h : ∀ c ∈ x, c ≠ 46) : splitD (x ++ 46 :: s) = x :: splitD s := by
  induction x with
  | nil => simp [splitD]
  | cons c x ih =>
    rw [List.cons_append]
    exact splitD_skip c _ x _ (h c (by simp)) (ih (fun d hd => h d (by simp [hd])))
theorem split_join (ls : List L) (h0 : ls ≠ []) (h : ∀ x ∈ ls, ∀ c ∈ x, c ≠ 46) : splitD (joinL ls) = ls := by
  induction ls with
  | nil => exact absurd rfl h0
  | cons x r ih =>
    cases r with
    | nil => simp only [joinL, tailJ, List.map_nil, List.flatten_nil, List.append_nil]; exact splitD_nodot x (h x (by simp))
    | cons y r =>
      have : joinL (x :: y :: r) = x ++ 46 :: joinL (y :: r) := by simp [joinL, tailJ]
      rw [this, splitD_cat x _ (h x (by simp)), ih (by simp) (fun z hz => h z (by simp [hz]))]
theorem joinTail_tailJ (r : List L) : Lib.joinTail [46] r = tailJ r := rfl
theorem nameOf_join (ls : List L) : nameOf ls = joinL ls := by
  unfold nameOf
  cases ls with
  | nil => rfl
  | cons x r => rw [Lib.join_cons, joinTail_tailJ]; rfl
/-- A label of so many x. -/
def xs1 (z : Nat) : L := List.replicate z 120
theorem xs1_dot (z : Nat) : ∀ c ∈ xs1 z, c ≠ 46 := by
  intro c hc
  rw [List.eq_of_mem_replicate hc]; decide
theorem xs1_label (z : Nat) : labelB (mkB (xs1 z)) = (decide (1 ≤ z) && decide (z ≤ 63)) := by
  unfold labelB
  have h1 : (mkB (xs1 z)).size = z := by rw [mkB_size]; simp [xs1]
  have h2 : (bytesOf (mkB (xs1 z))).any badB = false := by
    rw [List.any_eq_false]
    intro c hc
    simp only [bytesOf, mkB_toList, xs1, List.map_replicate] at hc
    rw [List.eq_of_mem_replicate hc]; decide
  rw [h1, h2]; simp
/-- The name of so many labels of so many x. -/
def longN (n z : Nat) : L := joinL (List.replicate n (xs1 z))
theorem labels_long (n z : Nat) (hn : 0 < n) (hz : 0 < z) : labelsOf (longN n z) = List.replicate n (xs1 z) := by
  unfold labelsOf longN
  obtain ⟨k, rfl⟩ : ∃ k, n = k + 1 := ⟨n - 1, by omega⟩
  rw [if_neg, split_join _ (by simp) (fun x hx => by rw [List.eq_of_mem_replicate hx]; exact xs1_dot z)]
  rw [List.replicate_succ]
  obtain ⟨m, rfl⟩ : ∃ m, z = m + 1 := ⟨z - 1, by omega⟩
  simp [joinL, xs1, List.replicate_succ]
theorem size_long (n z : Nat) : sizeOf_ (List.replicate n (xs1 z)) = 1 + n * (z + 1) := by
  simp [sizeOf_, xs1, List.map_replicate, List.sum_replicate_nat, Nat.add_comm]
theorem right_long (n z : Nat) (hn : 0 < n) (hz : 0 < z) : rightL (longN n z) = (decide (z ≤ 63) && decide (n * (z + 1) + 1 ≤ 255)) := by
  unfold rightL
  rw [labels_long n z hn hz, size_long]
  have : (List.replicate n (xs1 z)).any (fun x => !labelB (mkB x)) = !decide (z ≤ 63) := by
    obtain ⟨k, rfl⟩ : ∃ k, n = k + 1 := ⟨n - 1, by omega⟩
    have h1 : decide (1 ≤ z) = true := by simp; omega
    rw [List.any_replicate, if_neg (by omega), xs1_label, h1]
    simp
  rw [this, Nat.add_comm 1]
  simp [Bool.and_comm]
theorem wire_cons (x : L) (l : List L) : wireOf (x :: l) = ((x.length : Int) :: x.map fun b => (b.toNat : Int)) ++ wireOf l := by simp [wireOf]
theorem wire_drop (n z j : Nat) (hj : j ≤ n) : (wireOf (List.replicate n (xs1 z)) ++ [0]).drop (j * (z + 1)) = wireOf (List.replicate (n - j) (xs1 z)) ++ [0] := by
  induction j with
  | zero => simp
  | succ j ih =>
    obtain ⟨k, hk⟩ : ∃ k, n - j = k + 1 := ⟨n - j - 1, by omega⟩
    have h2 : n - (j + 1) = k := by omega
    rw [Nat.add_mul, Nat.one_mul, ← List.drop_drop, ih (by omega), hk, h2, List.replicate_succ, wire_cons, List.append_assoc, List.drop_append]
    simp [xs1]
theorem low_xs (z : Nat) : lowL ((xs1 z).map fun b => (b.toNat : Int)) = xs1 z := by
  simp [xs1, lowL, List.map_replicate, lowB]
theorem long_len (n z : Nat) : (wireOf (List.replicate n (xs1 z)) ++ [0]).length = n * (z + 1) + 1 := by
  rw [List.length_append, List.length_singleton, wire_len, size_long]; omega
section
variable (n z j : Nat) (hj : j < n) (hz : 0 < z) (hz7 : z ≤ 70)
include hj
theorem long_get : (wireOf (List.replicate n (xs1 z)) ++ [0]).getD (j * (z + 1)) 0 = (z : Int) := by
  have h := congrArg (fun l => l.getD 0 0) (wire_drop n z j (by omega))
  obtain ⟨k, hk⟩ : ∃ k, n - j = k + 1 := ⟨n - j - 1, by omega⟩
  rw [hk, List.replicate_succ, wire_cons] at h
  simpa [List.getD_eq_getElem?_getD, xs1] using h
theorem long_lab : lab (wireOf (List.replicate n (xs1 z)) ++ [0]) ((j * (z + 1) : Nat) : Int) (z : Int) = xs1 z := by
  have h := congrArg (fun l => (l.drop 1).take z) (wire_drop n z j (by omega))
  obtain ⟨k, hk⟩ : ∃ k, n - j = k + 1 := ⟨n - j - 1, by omega⟩
  rw [hk, List.replicate_succ, wire_cons] at h
  unfold lab
  have ha : (((j * (z + 1) : Nat) : Int) + 1).toNat = j * (z + 1) + 1 := by omega
  rw [ha]
  simp only [List.drop_drop] at h
  rw [Int.toNat_natCast, h]
  have hx : ((xs1 z).map fun b => (b.toNat : Int)).length = z := by simp [xs1]
  simp only [List.cons_append, List.drop_succ_cons, List.drop_zero, List.append_assoc]
  rw [List.take_append_of_le_length (by omega), List.take_of_length_le (by omega)]
  exact low_xs z
end
theorem long_steps (n z j K : Nat) (hj : j ≤ n) (hz : 0 < z) (hz6 : z ≤ 63) (hs : 1 + j * (z + 1) ≤ 255) :
    readF (K + j) (wireOf (List.replicate n (xs1 z)) ++ [0]) 0 0 (-1) [] = readF K (wireOf (List.replicate n (xs1 z)) ++ [0]) ((j * (z + 1) : Nat) : Int) 0 (-1) (List.replicate j (xs1 z)) := by
  induction j generalizing K with
  | zero => simp
  | succ j ih =>
    have hm : (j + 1) * (z + 1) = j * (z + 1) + (z + 1) := by rw [Nat.add_mul, Nat.one_mul]
    have hle : (j + 1) * (z + 1) ≤ n * (z + 1) := Nat.mul_le_mul_right _ hj
    rw [show K + (j + 1) = (K + 1) + j by omega, ih (K + 1) (by omega) (by omega)]
    have hg := long_get n z j (by omega)
    have hl := long_lab n z j (by omega)
    have hlen := long_len n z
    have hE : readE (wireOf (List.replicate n (xs1 z)) ++ [0]) ((j * (z + 1) : Nat) : Int) (z : Int) (List.replicate j (xs1 z)) = .none := by
      unfold readE
      rw [hlen, hl, xs1_label, ← List.replicate_succ', size_long, if_neg (by omega), if_neg (by simp; omega), if_neg (by omega)]
    rw [readF, hlen, if_neg (by omega), Int.toNat_natCast, hg, if_neg (by omega), if_pos (by omega), if_pos hE, hl, ← List.replicate_succ']
    congr 1
    omega
/-- What read answers at a long name. -/
theorem long_read (n z : Nat) (hn : 0 < n) (hn2 : n ≤ 130) (hz : 0 < z) (hz7 : z ≤ 70) :
    ∃ nm en er, readF ((0 : Int).toNat * 300 + 301) (wireOf (List.replicate n (xs1 z)) ++ [0]) 0 0 (-1) [] = (nm, en, er) ∧
      ((z ≤ 63 ∧ n * (z + 1) + 1 ≤ 255 ∧ nm = longN n z ∧ er = .none) ∨ (¬ z ≤ 63 ∧ ∃ a c, er = .fault a c) ∨ (¬ n * (z + 1) + 1 ≤ 255 ∧ z ≤ 63 ∧ ∃ a, er = .fault a 13)) := by
  have hlen := long_len n z
  by_cases h6 : z ≤ 63
  · by_cases h2 : n * (z + 1) + 1 ≤ 255
    · refine ⟨longN n z, ((n * (z + 1) : Nat) : Int) + 1, .none, ?_, .inl ⟨h6, h2, rfl, rfl⟩⟩
      have h3 : n ≤ n * (z + 1) := Nat.le_mul_of_pos_right n (by omega)
      rw [show (0 : Int).toNat * 300 + 301 = (300 - n + 1) + n by simp; omega, long_steps n z n _ (by omega) hz h6 (by omega), readF, hlen, if_neg (by omega), Int.toNat_natCast]
      have hg := congrArg (fun l => l.getD 0 0) (wire_drop n z n (by omega))
      have hg0 : (wireOf (List.replicate n (xs1 z)) ++ [0]).getD (n * (z + 1)) 0 = 0 := by simpa [List.getD_eq_getElem?_getD, wireOf] using hg
      rw [if_pos hg0, nameOf_join, if_pos (by decide)]
      rfl
    · have hJ : 254 / (z + 1) < n := by
        rw [Nat.div_lt_iff_lt_mul (by omega)]
        omega
      have hJ1 : 254 / (z + 1) * (z + 1) ≤ 254 := Nat.div_mul_le_self _ _
      have hJ2 : 254 < (254 / (z + 1) + 1) * (z + 1) := by
        have := Nat.lt_div_mul_add (a := 254) (b := z + 1) (by omega)
        rw [Nat.add_mul, Nat.one_mul]; exact this
      generalize 254 / (z + 1) = J at hJ hJ1 hJ2
      have hm : (J + 1) * (z + 1) = J * (z + 1) + (z + 1) := by rw [Nat.add_mul, Nat.one_mul]
      have hle : (J + 1) * (z + 1) ≤ n * (z + 1) := Nat.mul_le_mul_right _ hJ
      have hJl : J ≤ J * (z + 1) := Nat.le_mul_of_pos_right J (by omega)
      have hg := long_get n z J hJ
      have hl := long_lab n z J hJ
      have hE : readE (wireOf (List.replicate n (xs1 z)) ++ [0]) ((J * (z + 1) : Nat) : Int) (z : Int) (List.replicate J (xs1 z)) = .fault ((J * (z + 1) : Nat) : Int) 13 := by
        unfold readE
        rw [hlen, hl, xs1_label, ← List.replicate_succ', size_long, if_neg (by omega), if_neg (by simp; omega), if_pos (by omega)]
      refine ⟨[], 0, .fault ((J * (z + 1) : Nat) : Int) 13, ?_, .inr (.inr ⟨h2, h6, _, rfl⟩)⟩
      rw [show (0 : Int).toNat * 300 + 301 = (300 - J + 1) + J by simp; omega, long_steps n z J _ (by omega) hz h6 (by omega), readF, hlen, if_neg (by omega), Int.toNat_natCast, hg, if_neg (by omega), if_pos (by omega), if_neg (by rw [hE]; simp), hE]
  · refine ⟨[], 0, .fault 0 12, ?_, .inr (.inl ⟨h6, _, _, rfl⟩)⟩
    have hg := long_get n z 0 hn
    rw [Nat.zero_mul] at hg
    rw [show (0 : Int).toNat * 300 + 301 = 300 + 1 by rfl, readF, hlen, if_neg (by omega), show (0 : Int).toNat = 0 by rfl, hg, if_neg (by omega), if_neg (by omega), if_neg (by omega)]
end Go.Proofs.YtimaliamidgflaaDoor
