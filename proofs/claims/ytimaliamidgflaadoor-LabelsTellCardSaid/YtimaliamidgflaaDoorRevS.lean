/-
  slices.Reverse at rows of one-cell elements, by its contract.
-/
import Derived.Test.YtimaliamidgflaaDoorApp
import Derived.Test.YtimaliamidgflaaDoorCx
import Derived.RegionTactic
import Derived.Maps.AppendAt
import Derived.Test.YtimaliamidgflaaDoorRevR
namespace Go.Proofs.YtimaliamidgflaaDoor
open Go.RowKit Go.Proofs.YtimaliamidgflaaDoorW.PrintWords
set_option linter.unusedVariables false
set_option linter.unusedSimpArgs false
set_option maxRecDepth 100000
set_option maxHeartbeats 1000000

theorem reverseS_calls (g c : Nat) (xs : List ByteArray) (w : World) (base : Nat) (h : Kd.string.R 9 w base (fun _ => True) (.slice (some ⟨g, 0, none⟩) xs.length c) xs) :
    Calls Tryd.prog 55 #[.slice (some ⟨g, 0, none⟩) xs.length c] w fun e w' => e = .returned (.tuple #[]) ∧ Kd.string.R 9 w' base (fun _ => True) (.slice (some ⟨g, 0, none⟩) xs.length c) xs.reverse ∧ w.grownBy w' (some g) := by
  have hm := (C_len (R_C h).1).2
  have HR0 : Kp (Kd.string.R 9 w base (fun _ => True) (.slice (some ⟨g, 0, none⟩) xs.length c) (revK ByteArray.empty 0 xs)) := ⟨by rw [revK_zero]; exact h⟩
  clear h
  obtain ⟨n, hn⟩ : ∃ n, xs.length = n := ⟨_, rfl⟩
  have HN := Kp.mk hn
  rw [hn] at hm HR0 ⊢
  clear hn
  go_enter Tryd.func55, Tryd.ntmps55
  go_wp2_with (fail)
  go_loopw [2, 3] (fun i j wr => ∃ k : Nat, k * 2 ≤ n + 1 ∧ i = .int .i64 k ∧ j = .int .i64 ((n : Int) - 1 - (k : Int)) ∧ Kp (w.grownBy wr (some g)) ∧ Kp (Kd.string.R 9 wr base (fun _ => True) (.slice (some ⟨g, 0, none⟩) n c) (revK ByteArray.empty k xs))) (fun i _ _ => n + 1 - (intOf i).toNat)
  case atStart => exact ⟨0, by omega, rfl, by simp, ⟨World.grownBy.refl _ _⟩, HR0⟩
  case round =>
    obtain ⟨k, hk, rfl, rfl, HW, HR⟩ := hrel
    by_cases hlt : k * 2 + 1 < n
    · have hj0 : (0 : Int) ≤ (n : Int) - 1 - (k : Int) := by omega
      have hj1 : (n : Int) - 1 - (k : Int) < (n : Int) := by omega
      have hk0 : (0 : Int) ≤ (k : Int) := by omega
      have hk1 : (k : Int) < (n : Int) := by omega
      obtain ⟨hci, hfi⟩ := Kd.R_celln ByteArray.empty HR.out (k : Int) hk0 hk1
      obtain ⟨hcj, hfj⟩ := Kd.R_celln ByteArray.empty HR.out ((n : Int) - 1 - (k : Int)) hj0 hj1
      have hti : (k : Int).toNat = k := Int.toNat_natCast _
      have htj : ((n : Int) - 1 - (k : Int)).toNat = n - 1 - k := by omega
      rw [hti] at hci hfi
      rw [htj] at hcj hfj
      obtain ⟨x, hx⟩ : ∃ x, rdOf ByteArray.empty (revK ByteArray.empty k xs) (k : Int) = x := ⟨_, rfl⟩
      obtain ⟨y, hy⟩ : ∃ y, rdOf ByteArray.empty (revK ByteArray.empty k xs) ((n : Int) - 1 - (k : Int)) = y := ⟨_, rfl⟩
      have bl : decide ((k : Int) < (n : Int) - 1 - (k : Int)) = true := by simp; omega
      have HX := Kp.mk hx
      have HY := Kp.mk hy
      rw [hx] at hci
      rw [hy] at hcj
      have bn : (k : Int) ≤ (n : Int) - 1 := by omega
      clear hx hy hti htj
      go_wp2_with (fail)
      go_region
      have h1 := Kd.R_putn HR.out (k : Int) y
      have h2 := Kd.R_putn h1 ((n : Int) - 1 - (k : Int)) x
      have hti : (k : Int).toNat = k := Int.toNat_natCast _
      have htj : ((n : Int) - 1 - (k : Int)).toNat = n - 1 - k := by omega
      have hs := revK_step ByteArray.empty k xs (by rw [HN.out]; exact hlt)
      have hx : (revK ByteArray.empty k xs).getD k ByteArray.empty = x := by rw [← HX.out, rdOf, hti]
      have hy : (revK ByteArray.empty k xs).getD (xs.length - 1 - k) ByteArray.empty = y := by rw [← HY.out, rdOf, htj, HN.out]
      rw [hx, hy, HN.out] at hs
      rw [hti] at h1 h2
      rw [htj, hs] at h2
      have H2 := Kp.mk (Kd.R_below h2 (below_drew (Below.refl _ _)))
      have HB2 := Kp.mk (grown_drew ((HW.out.trans (grown_set wr g k (Value.string y))).trans (grown_set _ g (n - 1 - k) (Value.string x))))
      clear h1 h2 hti htj hs hx hy hci hcj hfi hfj bl bn
      go_wp2
      exact ⟨⟨k + 1, by omega, by go_num, by simp; omega, HB2, H2⟩, by simp [intOf]; omega⟩
    · have bl : decide ((k : Int) < (n : Int) - 1 - (k : Int)) = false := by simp; omega
      have hal := revK_all ByteArray.empty k xs (by rw [HN.out]; omega)
      rw [hal] at HR
      clear hal
      go_wp2
      go_returns
      exact ⟨rfl, HR.out, HW.out⟩
end Go.Proofs.YtimaliamidgflaaDoor

