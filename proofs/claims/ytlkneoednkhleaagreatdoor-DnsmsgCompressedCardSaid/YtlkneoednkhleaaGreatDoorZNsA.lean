/-
  The law NameShort: cut anywhere a name is too short, at the place of what is missing: the plain law.
-/
import Derived.Test.YtlkneoednkhleaaGreatDoorGt
namespace Go.Proofs.YtlkneoednkhleaaGreatDoor
open Go.RowKit Go.Proofs.YtlkneoednkhleaaGreatDoorW.PrintWords
set_option linter.unusedVariables false
set_option linter.unusedSimpArgs false
set_option maxRecDepth 100000
set_option maxHeartbeats 1000000

/-- Where what is missing begins. -/
def cutAt : List L → Nat → Nat → Nat
  | [], _, a => a
  | x :: ls, C, a => if a + 1 + x.length ≤ C then cutAt ls C (a + 1 + x.length) else a
theorem low_self (x : L) (h : (x.map nB).any badB = false) : lowL (x.map nB) = x := by
  have := low_cap [] x h
  rwa [capL_nil] at this
theorem read_cut (ls : List L) (ls0 : List L) (K : Nat) (xs : List Int) (C a : Nat) (b e : Int) (hxl : xs.length = C) (haC : a ≤ C) (hd : xs.drop a = (wireOf ls).take (C - a))
    (hl : ∀ x ∈ ls, labelB (mkB x) = true) (hs : sizeOf_ (ls0 ++ ls) ≤ 255) : readF (K + ls.length + 1) xs (a : Int) b e ls0 = ([], 0, .fault ((cutAt ls C a : Nat) : Int) 3) := by
  induction ls generalizing ls0 K a with
  | nil =>
    have : C - a = 0 := by
      have := congrArg List.length hd
      rw [List.length_drop, hxl] at this
      simpa [wireOf] using this
    rw [readF, if_pos (by omega)]; rfl
  | cons x ls ih =>
    by_cases hz : C - a = 0
    · rw [readF, if_pos (by omega), cutAt, if_neg (by omega)]
    · have hx := hl x (by simp)
      have hx' := hx
      rw [label_mk] at hx
      simp only [Bool.and_eq_true, decide_eq_true_eq, Bool.not_eq_true'] at hx
      obtain ⟨⟨hx1, hx63⟩, hbad⟩ := hx
      rw [wire_cons] at hd
      obtain ⟨m, hm⟩ : ∃ m, C - a = m + 1 := ⟨C - a - 1, by omega⟩
      have hg : xs.getD a 0 = (x.length : Int) := getD_drop xs a _ _ (by rw [hd, hm]; rfl)
      rw [List.length_cons, show K + (ls.length + 1) + 1 = (K + ls.length + 1) + 1 by omega, readF, if_neg (by omega), Int.toNat_natCast, hg, if_neg (by omega), if_pos (by omega)]
      by_cases hc : a + 1 + x.length ≤ C
      · have hd1 : xs.drop (a + 1) = (x.map nB ++ wireOf ls).take m := by
          rw [← List.drop_drop, hd, hm]; rfl
        have hxn : (x.map nB).length = x.length := List.length_map ..
        have hlab : lab xs (a : Int) (x.length : Int) = x := by
          unfold lab
          rw [show ((a : Int) + 1).toNat = a + 1 by omega, hd1, Int.toNat_natCast, List.take_take, Nat.min_eq_left (by omega), List.take_left' hxn]
          exact low_self x hbad
        have hE : readE xs (a : Int) (x.length : Int) ls0 = .none := by
          have hsz : sizeOf_ (ls0 ++ [x]) ≤ sizeOf_ (ls0 ++ x :: ls) := by simp [sizeOf_]
          unfold readE
          rw [hlab, hx', if_neg (show ¬ ((xs.length : Int) - (x.length : Int) < (a : Int) + 1) by omega), if_neg (show ¬ (true = false) by simp), if_neg (show ¬ 255 < sizeOf_ (ls0 ++ [x]) by omega)]
        have hd2 : xs.drop (a + 1 + x.length) = (wireOf ls).take (C - (a + 1 + x.length)) := by
          rw [← List.drop_drop, hd1, List.drop_take, List.drop_left' hxn]
          congr 1; omega
        have ih' := ih (ls0 ++ [x]) K (a + 1 + x.length) hc hd2 (fun y hy => hl y (by simp [hy])) (by rw [List.append_assoc]; exact hs)
        rw [if_pos hE, hlab, show (a : Int) + 1 + (x.length : Int) = ((a + 1 + x.length : Nat) : Int) by simp, ih', cutAt, if_pos hc]
      · have hE : readE xs (a : Int) (x.length : Int) ls0 = .fault (a : Int) 3 := by
          unfold readE
          rw [if_pos (by omega)]
        rw [if_neg (by rw [hE]; simp), hE, cutAt, if_neg hc]
end Go.Proofs.YtlkneoednkhleaaGreatDoor
