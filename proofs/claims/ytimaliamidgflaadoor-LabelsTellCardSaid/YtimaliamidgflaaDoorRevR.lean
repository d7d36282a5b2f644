/-
  slices.Reverse at rows of one-cell elements, by its contract.
-/
import Derived.Test.YtimaliamidgflaaDoorApp
import Derived.Test.YtimaliamidgflaaDoorCx
import Derived.RegionTactic
import Derived.Maps.AppendAt

namespace Go.Proofs.YtimaliamidgflaaDoor
open Go.RowKit Go.Proofs.YtimaliamidgflaaDoorW.PrintWords
set_option linter.unusedVariables false
set_option linter.unusedSimpArgs false
set_option maxRecDepth 100000
set_option maxHeartbeats 1000000

/-- Slices as they lie in a row. -/
def rawK : Kd (Option Addr × Nat × Nat) := Kd.scalar (fun v => Value.slice v.1 v.2.1 v.2.2) (fun _ => rfl)
theorem grown_set (w : World) (g i : Nat) (v : Value) : w.grownBy (w.setCell ⟨g, i, none⟩ v) (some g) := ⟨rfl, rfl, rfl, by simp, fun k _ hne => Below.heap_setCell _ _ _ _ (fun e => hne (by rw [e]))⟩
theorem grown_drew {w w' : World} {row : Option Nat} (h : w.grownBy w' row) : w.grownBy w'.drew row := ⟨h.os, h.tape, h.output, h.size, h.block⟩
/-- The first k and the last k elements exchanged. -/
def revK {α : Type} (d : α) (k : Nat) (xs : List α) : List α := (List.range xs.length).map fun m => if m < k ∨ xs.length ≤ m + k then xs.getD (xs.length - 1 - m) d else xs.getD m d
theorem revK_len {α : Type} (d : α) (k : Nat) (xs : List α) : (revK d k xs).length = xs.length := by simp [revK]
theorem revK_get {α : Type} (d : α) (k : Nat) (xs : List α) (m : Nat) (hm : m < xs.length) : (revK d k xs)[m]'(by rw [revK_len]; exact hm) = if m < k ∨ xs.length ≤ m + k then xs.getD (xs.length - 1 - m) d else xs.getD m d := by simp [revK]
theorem revK_zero {α : Type} (d : α) (xs : List α) : revK d 0 xs = xs := by
  apply List.ext_getElem
  · exact revK_len ..
  · intro m h1 h2
    rw [revK_get d 0 xs m h2, if_neg (by omega), List.getD_eq_getElem?_getD, List.getElem?_eq_getElem h2]
    rfl
theorem revK_all {α : Type} (d : α) (k : Nat) (xs : List α) (h : xs.length ≤ k * 2 + 1) : revK d k xs = xs.reverse := by
  apply List.ext_getElem
  · rw [revK_len, List.length_reverse]
  · intro m h1 h2
    have hm : m < xs.length := by simpa using h2
    rw [revK_get d k xs m hm, List.getElem_reverse]
    split
    · rw [List.getD_eq_getElem?_getD, List.getElem?_eq_getElem (by omega)]; rfl
    · rename_i hn
      have : m = xs.length - 1 - m := by omega
      rw [List.getD_eq_getElem?_getD, List.getElem?_eq_getElem (by omega)]
      simp only [Option.getD_some]
      congr 1
theorem revK_step {α : Type} (d : α) (k : Nat) (xs : List α) (h : k * 2 + 1 < xs.length) : (((revK d k xs).set k ((revK d k xs).getD (xs.length - 1 - k) d)).set (xs.length - 1 - k) ((revK d k xs).getD k d)) = revK d (k + 1) xs := by
  apply List.ext_getElem
  · simp [revK_len]
  · intro m h1 h2
    have hm : m < xs.length := by rw [revK_len] at h2; exact h2
    have e1 : (revK d k xs).getD (xs.length - 1 - k) d = xs.getD (xs.length - 1 - k) d := by
      rw [List.getD_eq_getElem?_getD, List.getElem?_eq_getElem (by rw [revK_len]; omega), Option.getD_some, revK_get d k xs _ (by omega), if_neg (by omega)]
    have e2 : (revK d k xs).getD k d = xs.getD k d := by
      rw [List.getD_eq_getElem?_getD, List.getElem?_eq_getElem (by rw [revK_len]; omega), Option.getD_some, revK_get d k xs _ (by omega), if_neg (by omega)]
    simp only [e1, e2]
    rw [revK_get d (k + 1) xs m hm, List.getElem_set, List.getElem_set]
    by_cases hm1 : xs.length - 1 - k = m
    · rw [if_pos hm1, if_pos (by omega)]
      congr 1; omega
    · rw [if_neg hm1]
      by_cases hm2 : k = m
      · rw [if_pos hm2, if_pos (by omega)]
        congr 1; omega
      · rw [if_neg hm2, revK_get d k xs m hm]
        by_cases hm3 : m < k ∨ xs.length ≤ m + k
        · rw [if_pos hm3, if_pos (by omega)]
        · rw [if_neg hm3, if_neg (by omega)]
theorem reverseR_calls (g c : Nat) (xs : List (Option Addr × Nat × Nat)) (w : World) (base : Nat) (h : rawK.R 37 w base (fun _ => True) (.slice (some ⟨g, 0, none⟩) xs.length c) xs) :
    Calls Tryd.prog 39 #[.slice (some ⟨g, 0, none⟩) xs.length c] w fun e w' => e = .returned (.tuple #[]) ∧ rawK.R 37 w' base (fun _ => True) (.slice (some ⟨g, 0, none⟩) xs.length c) xs.reverse ∧ w.grownBy w' (some g) := by
  have hm := (C_len (R_C h).1).2
  have HR0 : Kp (rawK.R 37 w base (fun _ => True) (.slice (some ⟨g, 0, none⟩) xs.length c) (revK (none, 0, 0) 0 xs)) := ⟨by rw [revK_zero]; exact h⟩
  clear h
  obtain ⟨n, hn⟩ : ∃ n, xs.length = n := ⟨_, rfl⟩
  have HN := Kp.mk hn
  rw [hn] at hm HR0 ⊢
  clear hn
  go_enter Tryd.func39, Tryd.ntmps39
  go_wp2_with (fail)
  go_loopw [2, 3] (fun i j wr => ∃ k : Nat, k * 2 ≤ n + 1 ∧ i = .int .i64 k ∧ j = .int .i64 ((n : Int) - 1 - (k : Int)) ∧ Kp (w.grownBy wr (some g)) ∧ Kp (rawK.R 37 wr base (fun _ => True) (.slice (some ⟨g, 0, none⟩) n c) (revK (none, 0, 0) k xs))) (fun i _ _ => n + 1 - (intOf i).toNat)
  case atStart => exact ⟨0, by omega, rfl, by simp, ⟨World.grownBy.refl _ _⟩, HR0⟩
  case round =>
    obtain ⟨k, hk, rfl, rfl, HW, HR⟩ := hrel
    by_cases hlt : k * 2 + 1 < n
    · have hj0 : (0 : Int) ≤ (n : Int) - 1 - (k : Int) := by omega
      have hj1 : (n : Int) - 1 - (k : Int) < (n : Int) := by omega
      have hk0 : (0 : Int) ≤ (k : Int) := by omega
      have hk1 : (k : Int) < (n : Int) := by omega
      obtain ⟨hci, hfi⟩ := Kd.R_celln (none, 0, 0) HR.out (k : Int) hk0 hk1
      obtain ⟨hcj, hfj⟩ := Kd.R_celln (none, 0, 0) HR.out ((n : Int) - 1 - (k : Int)) hj0 hj1
      have hti : (k : Int).toNat = k := Int.toNat_natCast _
      have htj : ((n : Int) - 1 - (k : Int)).toNat = n - 1 - k := by omega
      rw [hti] at hci hfi
      rw [htj] at hcj hfj
      obtain ⟨x, hx⟩ : ∃ x, rdOf (none, 0, 0) (revK (none, 0, 0) k xs) (k : Int) = x := ⟨_, rfl⟩
      obtain ⟨y, hy⟩ : ∃ y, rdOf (none, 0, 0) (revK (none, 0, 0) k xs) ((n : Int) - 1 - (k : Int)) = y := ⟨_, rfl⟩
      have bl : decide ((k : Int) < (n : Int) - 1 - (k : Int)) = true := by simp; omega
      have HX := Kp.mk hx
      have HY := Kp.mk hy
      rw [hx] at hci
      rw [hy] at hcj
      have bn : (k : Int) ≤ (n : Int) - 1 := by omega
      clear hx hy hti htj
      go_wp2_with (fail)
      go_region
      have h1 := Kd.R_putn HR.out (k : Int) y
      have h2 := Kd.R_putn h1 ((n : Int) - 1 - (k : Int)) x
      have hti : (k : Int).toNat = k := Int.toNat_natCast _
      have htj : ((n : Int) - 1 - (k : Int)).toNat = n - 1 - k := by omega
      have hs := revK_step (none, 0, 0) k xs (by rw [HN.out]; exact hlt)
      have hx : (revK (none, 0, 0) k xs).getD k (none, 0, 0) = x := by rw [← HX.out, rdOf, hti]
      have hy : (revK (none, 0, 0) k xs).getD (xs.length - 1 - k) (none, 0, 0) = y := by rw [← HY.out, rdOf, htj, HN.out]
      rw [hx, hy, HN.out] at hs
      rw [hti] at h1 h2
      rw [htj, hs] at h2
      have H2 := Kp.mk (Kd.R_below h2 (below_drew (Below.refl _ _)))
      have HB2 := Kp.mk (grown_drew ((HW.out.trans (grown_set wr g k ((fun v : Option Addr × Nat × Nat => Value.slice v.1 v.2.1 v.2.2) y))).trans (grown_set _ g (n - 1 - k) ((fun v : Option Addr × Nat × Nat => Value.slice v.1 v.2.1 v.2.2) x))))
      clear h1 h2 hti htj hs hx hy hci hcj hfi hfj bl bn
      go_wp2
      exact ⟨⟨k + 1, by omega, by go_num, by simp; omega, HB2, H2⟩, by simp [intOf]; omega⟩
    · have bl : decide ((k : Int) < (n : Int) - 1 - (k : Int)) = false := by simp; omega
      have hal := revK_all (none, 0, 0) k xs (by rw [HN.out]; omega)
      rw [hal] at HR
      clear hal
      go_wp2
      go_returns
      exact ⟨rfl, HR.out, HW.out⟩
end Go.Proofs.YtimaliamidgflaaDoor

