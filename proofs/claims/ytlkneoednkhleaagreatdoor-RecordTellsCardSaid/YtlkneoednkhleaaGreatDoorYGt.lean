/-
  Several texts of this seat in one: NuA, PlayA, NlA, NbA, Lit, NpA.
-/
import Derived.Test.YtlkneoednkhleaaGreatDoorYNameD
import Derived.Test.YtlkneoednkhleaaGreatDoorYNameF
import Derived.Test.YtlkneoednkhleaaGreatDoorYCx
import Derived.Test.YtlkneoednkhleaaGreatDoorYApp
namespace Go.Proofs.YtlkneoednkhleaaGreatDoor
open Go.RowKit Go.Proofs.YtlkneoednkhleaaGreatDoorW.PrintWords
set_option linter.unusedVariables false
set_option linter.unusedSimpArgs false
set_option maxRecDepth 100000
set_option maxHeartbeats 1000000

def tailJ (r : List L) : L := (r.map fun x => 46 :: x).flatten
/-- Labels, joined. -/
def joinL : List L → L
  | [] => []
  | x :: r => x ++ tailJ r
theorem join_split (s : L) : joinL (splitD s) = s := by
  induction s with
  | nil => rfl
  | cons c s ih =>
    unfold splitD
    split
    · rename_i h
      subst h
      have hne := splitD_ne s
      cases hs : splitD s with
      | nil => exact absurd hs hne
      | cons p ps => rw [hs] at ih; simp only [joinL] at ih ⊢; simp [tailJ] at ih ⊢; exact ih
    · cases hs : splitD s with
      | nil => exact absurd hs (splitD_ne s)
      | cons p ps => rw [hs] at ih; simp only [joinL] at ih ⊢; simp; exact ih
end Go.Proofs.YtlkneoednkhleaaGreatDoor

namespace Go.Proofs.YtlkneoednkhleaaGreatDoor
open Go.RowKit Go.Proofs.YtlkneoednkhleaaGreatDoorW.PrintWords
set_option linter.unusedVariables false
set_option linter.unusedSimpArgs false
set_option maxRecDepth 100000
set_option maxHeartbeats 1000000

/-- A byte, as a number. -/
def nB (b : UInt8) : Int := (b.toNat : Int)
theorem label_mk (x : L) : labelB (mkB x) = (decide (1 ≤ x.length) && decide (x.length ≤ 63) && !((x.map nB).any badB)) := by
  unfold labelB
  rw [mkB_size]
  rfl
structure GoodO (o : L) : Prop where
  len : o.length ≤ 60
  ex : ∃ ls x, splitD o = ls ++ [x] ∧ (∀ y ∈ ls, labelB (mkB y) = true) ∧ (x.map nB).any badB = false ∧ (x = [] → o = [] ∨ o.getLast? = some 46)
end Go.Proofs.YtlkneoednkhleaaGreatDoor

namespace Go.Proofs.YtlkneoednkhleaaGreatDoor
open Go.RowKit Go.Proofs.YtlkneoednkhleaaGreatDoorW.PrintWords
set_option linter.unusedVariables false
set_option linter.unusedSimpArgs false
set_option maxRecDepth 100000
set_option maxHeartbeats 1000000

theorem splitD_skip (c : UInt8) (l : L) (p : L) (ps : List L) (hc : c ≠ 46) (h : splitD l = p :: ps) : splitD (c :: l) = (c :: p) :: ps := by
  rw [splitD, if_neg hc, h]
theorem splitD_nodot (x : L) (h : ∀ c ∈ x, c ≠ 46) : splitD x = [x] := by
  induction x with
  | nil => rfl
  | cons c x ih =>
    unfold splitD
    rw [if_neg (h c (by simp)), ih (fun d hd => h d (by simp [hd]))]
theorem splitD_cat (x s : L) (h : ∀ c ∈ x, c ≠ 46) : splitD (x ++ 46 :: s) = x :: splitD s := by
  induction x with
  | nil => simp [splitD]
  | cons c x ih =>
    rw [List.cons_append]
    exact splitD_skip c _ x _ (h c (by simp)) (ih (fun d hd => h d (by simp [hd])))
theorem joinTail_tailJ (r : List L) : Lib.joinTail [46] r = tailJ r := rfl
theorem nameOf_join (ls : List L) : nameOf ls = joinL ls := by
  unfold nameOf
  cases ls with
  | nil => rfl
  | cons x r => rw [Lib.join_cons, joinTail_tailJ]; rfl
theorem wire_cons (x : L) (l : List L) : wireOf (x :: l) = ((x.length : Int) :: x.map fun b => (b.toNat : Int)) ++ wireOf l := by simp [wireOf]
section
variable (n z j : Nat) (hj : j < n) (hz : 0 < z) (hz7 : z ≤ 70)
include hj
end
end Go.Proofs.YtlkneoednkhleaaGreatDoor

namespace Go.Proofs.YtlkneoednkhleaaGreatDoor
open Go.RowKit Go.Proofs.YtlkneoednkhleaaGreatDoorW.PrintWords
set_option linter.unusedVariables false
set_option linter.unusedSimpArgs false
set_option maxRecDepth 100000
set_option maxHeartbeats 1000000

/-- A byte, made a capital if that is asked. -/
def capB (u : Bool) (c : Int) : Int := if u = true ∧ 97 ≤ c ∧ c ≤ 122 then c - 32 else c
def capL : List Bool → List Int → List Int
  | _, [] => []
  | [], c :: w => c :: w
  | u :: us, c :: w => capB u c :: capL us w
theorem capL_len (us : List Bool) (w : List Int) : (capL us w).length = w.length := by
  induction us generalizing w with
  | nil => cases w <;> rfl
  | cons u us ih => cases w with | nil => rfl | cons c w => simp [capL, ih]
theorem capL_nil (w : List Int) : capL [] w = w := by cases w <;> rfl
theorem capL_app (us : List Bool) (x y : List Int) : capL us (x ++ y) = capL us x ++ capL (us.drop x.length) y := by
  induction x generalizing us with
  | nil => simp [capL]
  | cons c x ih =>
    cases us with
    | nil => simp [capL_nil]
    | cons u us => simp [capL, ih]
theorem capB_low (u : Bool) (c : Int) (h : ¬ (65 ≤ c ∧ c ≤ 90)) : lowB (capB u c) = c := by
  unfold lowB capB
  by_cases hu : u = true ∧ 97 ≤ c ∧ c ≤ 122
  · rw [if_pos hu]; split <;> omega
  · rw [if_neg hu, if_neg h]
/-- Labels as they are written, letters in any case. -/
inductive CapW : List L → List Int → Prop
  | nil : CapW [] []
  | cons (x : L) (u : List Int) (ls : List L) (ys : List Int) : u.length = x.length → lowL u = x → CapW ls ys → CapW (x :: ls) (((x.length : Int) :: u) ++ ys)
theorem CapW.len {ls : List L} {ys : List Int} (h : CapW ls ys) : ys.length + 1 = sizeOf_ ls := by
  induction h with
  | nil => rfl
  | cons x u ls ys h1 h2 h3 ih => simp [sizeOf_] at ih ⊢; omega
theorem low_cap (us : List Bool) (x : L) (h : (x.map nB).any badB = false) : lowL (capL us (x.map nB)) = x := by
  induction x generalizing us with
  | nil => simp [capL, lowL]
  | cons c x ih =>
    rw [List.map_cons, List.any_cons, Bool.or_eq_false_iff] at h
    obtain ⟨h1, h2⟩ := h
    have hc : ¬ (65 ≤ nB c ∧ nB c ≤ 90) := by
      intro ⟨e1, e2⟩
      simp [badB, e1, e2] at h1
    have hn : ∀ u, UInt8.ofNat (lowB (capB u (nB c))).toNat = c := by
      intro u
      rw [capB_low u _ hc]
      simp [nB]
    cases us with
    | nil =>
      have := ih [] h2
      rw [capL_nil] at this ⊢
      rw [List.map_cons]
      have h3 := hn false
      simp only [capB, Bool.false_eq_true, false_and, if_false] at h3
      simp only [lowL, List.map_cons] at this ⊢
      rw [h3, this]
    | cons u us =>
      have := ih us h2
      rw [List.map_cons, capL]
      simp only [lowL, List.map_cons] at this ⊢
      rw [hn u, this]
theorem cap_wire (ls : List L) (us : List Bool) (h : ∀ x ∈ ls, labelB (mkB x) = true) : CapW ls (capL us (wireOf ls)) := by
  induction ls generalizing us with
  | nil => cases us <;> exact CapW.nil
  | cons x ls ih =>
    have hx := h x (by simp)
    rw [label_mk] at hx
    simp only [Bool.and_eq_true, decide_eq_true_eq, Bool.not_eq_true'] at hx
    obtain ⟨⟨-, h63⟩, hb⟩ := hx
    rw [wire_cons, capL_app]
    have hl : (((x.length : Int) :: x.map fun b => (b.toNat : Int)) : List Int).length = x.length + 1 := by simp
    have e : ∃ us', capL us ((x.length : Int) :: x.map fun b => (b.toNat : Int)) = (x.length : Int) :: capL us' (x.map nB) := by
      cases us with
      | nil => exact ⟨[], by rw [capL_nil, capL_nil]; rfl⟩
      | cons u us =>
        refine ⟨us, ?_⟩
        rw [capL]
        have : capB u (x.length : Int) = x.length := by unfold capB; rw [if_neg]; omega
        rw [this]; rfl
    obtain ⟨us', e⟩ := e
    rw [e]
    exact CapW.cons x _ ls _ (by rw [capL_len]; simp) (low_cap us' x hb) (ih _ (fun y hy => h y (by simp [hy])))
theorem getD_drop (xs : List Int) (a : Nat) (c : Int) (r : List Int) (h : xs.drop a = c :: r) : xs.getD a 0 = c := by
  have := congrArg (fun l => l.getD 0 0) h
  simpa [List.getD_eq_getElem?_getD] using this
theorem drop_len (xs : List Int) (a : Nat) (r : List Int) (h : xs.drop a = r) (h0 : r ≠ []) : xs.length = a + r.length := by
  have := congrArg List.length h
  rw [List.length_drop] at this
  have : 0 < r.length := List.length_pos_iff.2 h0
  omega
theorem read_caps (ls : List L) (ys : List Int) (h : CapW ls ys) (ls0 : List L) (K : Nat) (xs : List Int) (a : Nat) (b e : Int) (rest : List Int) (hd : xs.drop a = ys ++ 0 :: rest)
    (hl : ∀ x ∈ ls, labelB (mkB x) = true) (hs : sizeOf_ (ls0 ++ ls) ≤ 255) :
    readF (K + ls.length + 1) xs (a : Int) b e ls0 = (nameOf (ls0 ++ ls), if e < 0 then ((a + ys.length + 1 : Nat) : Int) else e, .none) := by
  induction h generalizing ls0 K a with
  | nil =>
    have hlen := drop_len xs a _ hd (by simp)
    have hg := getD_drop xs a 0 rest hd
    rw [readF, if_neg (by rw [hlen]; simp; omega), Int.toNat_natCast, if_pos hg]
    simp
  | cons x u ls ys h1 h2 h3 ih =>
    have hlen := drop_len xs a _ hd (by simp)
    simp only [List.length_append, List.length_cons] at hlen
    have hg : xs.getD a 0 = (x.length : Int) := getD_drop xs a _ _ (by rw [hd]; rfl)
    have hx := hl x (by simp)
    have hx' := hx
    rw [labelB, mkB_size] at hx
    simp only [Bool.and_eq_true, decide_eq_true_eq] at hx
    obtain ⟨⟨hx1, hx63⟩, -⟩ := hx
    have hd1 : xs.drop (a + 1) = u ++ (ys ++ 0 :: rest) := by
      rw [← List.drop_drop, hd]; simp
    have hlab : lab xs (a : Int) (x.length : Int) = x := by
      unfold lab
      rw [show ((a : Int) + 1).toNat = a + 1 by omega, hd1, Int.toNat_natCast, ← h1, List.take_left']
      · exact h2
      · rfl
    have hE : readE xs (a : Int) (x.length : Int) ls0 = .none := by
      have hsz : sizeOf_ (ls0 ++ [x]) ≤ sizeOf_ (ls0 ++ x :: ls) := by simp [sizeOf_]
      unfold readE
      rw [hlab, hx', if_neg (show ¬ ((xs.length : Int) - (x.length : Int) < (a : Int) + 1) by omega), if_neg (show ¬ (true = false) by simp), if_neg (show ¬ 255 < sizeOf_ (ls0 ++ [x]) by omega)]
    have hd2 : xs.drop (a + 1 + x.length) = ys ++ 0 :: rest := by
      rw [← List.drop_drop, hd1, ← h1, List.drop_left']; rfl
    have ih' := ih (ls0 ++ [x]) K (a + 1 + x.length) hd2 (fun y hy => hl y (by simp [hy])) (by rw [List.append_assoc]; exact hs)
    rw [List.length_cons, show K + (ls.length + 1) + 1 = (K + ls.length + 1) + 1 by omega, readF, if_neg (by rw [hlen]; simp; omega), Int.toNat_natCast, hg, if_neg (by omega), if_pos (by omega), if_pos hE, hlab]
    rw [show (a : Int) + 1 + (x.length : Int) = ((a + 1 + x.length : Nat) : Int) by simp, ih', List.append_assoc]
    simp only [List.cons_append, List.nil_append, List.length_cons, List.length_append, h1]
    congr 2
    split
    · omega
    · rfl
theorem labels_len (ls : List L) (h : ∀ x ∈ ls, labelB (mkB x) = true) : ls.length ≤ sizeOf_ ls := by
  induction ls with
  | nil => simp
  | cons x ls ih => have := ih (fun y hy => h y (by simp [hy])); simp [sizeOf_] at this ⊢; omega
theorem right_labels (s : L) (h : rightL s = true) : sizeOf_ (labelsOf s) ≤ 255 ∧ ∀ x ∈ labelsOf s, labelB (mkB x) = true := by
  unfold rightL at h
  simp only [Bool.and_eq_true, decide_eq_true_eq, Bool.not_eq_true'] at h
  refine ⟨h.1, fun x hx => ?_⟩
  have := List.any_eq_false.1 h.2 x hx
  simpa using this
theorem name_labels (s : L) : nameOf (labelsOf s) = s := by
  rw [nameOf_join]
  unfold labelsOf
  split
  · rename_i h; rw [h]; rfl
  · exact join_split s
/-- The first of the two reads. -/
theorem back_read (s : L) (hr : rightL s = true) (us : List Bool) (ah rest : List Int) :
    readF ((ah.length : Int).toNat * 300 + 301) (ah ++ (capL us (wireOf (labelsOf s)) ++ 0 :: rest)) (ah.length : Int) (ah.length : Int) (-1) [] = (s, ((ah.length + (wireOf (labelsOf s)).length + 1 : Nat) : Int), .none) := by
  obtain ⟨hs, hl⟩ := right_labels s hr
  have hc := cap_wire _ us hl
  have hn := labels_len _ hl
  have h := read_caps _ _ hc [] ((ah.length : Int).toNat * 300 + 300 - (labelsOf s).length) (ah ++ (capL us (wireOf (labelsOf s)) ++ 0 :: rest)) ah.length (ah.length : Int) (-1) rest (by simp) hl hs
  rw [show (ah.length : Int).toNat * 300 + 300 - (labelsOf s).length + (labelsOf s).length + 1 = (ah.length : Int).toNat * 300 + 301 by omega, List.nil_append, name_labels, if_pos (by decide), capL_len] at h
  exact h
end Go.Proofs.YtlkneoednkhleaaGreatDoor

namespace Go.Proofs.YtlkneoednkhleaaGreatDoor
open Go.RowKit Go.Proofs.YtlkneoednkhleaaGreatDoorW.PrintWords
set_option linter.unusedVariables false
set_option linter.unusedSimpArgs false
set_option maxRecDepth 100000
set_option maxHeartbeats 1000000

theorem lit_bytes (W : World) (base : Nat) (xs : List Int) (hb : base ≤ W.heap.size) (hm : xs.length ≤ 9223372036854775807) :
    (Kd.int .u8).R 5 (W.alloc (.cells (xs.map (Value.int .u8)).toArray 5)) base (fun _ => True) (.slice (some ⟨W.heap.size, 0, none⟩) xs.length xs.length) xs :=
  Kd.R_of_own (by have h := own_lit W base 5 .u8 xs hb hm; simpa [nums, encs] using h) (fun _ _ => trivial)
end Go.Proofs.YtlkneoednkhleaaGreatDoor

namespace Go.Proofs.YtlkneoednkhleaaGreatDoor
open Go.RowKit Go.Proofs.YtlkneoednkhleaaGreatDoorW.PrintWords
set_option linter.unusedVariables false
set_option linter.unusedSimpArgs false
set_option maxRecDepth 100000
set_option maxHeartbeats 1000000

section
variable {ops : Array Oper} {rest : List Oper} {o : Oper} {a : Act} {Q : Exit → Act → World → Prop} {w0 W : World} {base : Nat} {v : Value} {s x : Operand}
end
theorem be_two (x y : Int) : be [x, y] = x * 256 + y := by simp [be]
end Go.Proofs.YtlkneoednkhleaaGreatDoor
