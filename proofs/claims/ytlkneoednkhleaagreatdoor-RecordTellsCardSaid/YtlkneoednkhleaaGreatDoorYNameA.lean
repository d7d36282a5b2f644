/-
  Package name: label (and slices.ContainsFunc, IndexFunc at bytes), by their contracts.
-/
import Derived.Test.YtlkneoednkhleaaGreatDoorYClone
namespace Go.Proofs.YtlkneoednkhleaaGreatDoor
open Go.RowKit Go.Proofs.YtlkneoednkhleaaGreatDoorW.PrintWords
set_option linter.unusedVariables false
set_option linter.unusedSimpArgs false
set_option maxRecDepth 100000
set_option maxHeartbeats 1000000

/-- A byte that may not stand in a label. -/
def badB (c : Int) : Bool := decide (c < 33) || decide (126 < c) || c == 46 || (decide (65 ≤ c) && decide (c ≤ 90))

theorem bad_calls (c : Int) (w : World) : Calls Tryz.prog 124 #[.int .u8 c] w fun e w' => e = .returned (.bool (badB c)) ∧ w = w' := by
  have hb : badB c = badB c := rfl
  conv at hb => rhs; unfold badB
  by_cases h1 : c < 33
  · have b1 : decide (c < 33) = true := by simpa using h1
    rw [b1] at hb
    have HB := Kp.mk hb
    clear hb
    go_enter Tryz.func124, Tryz.ntmps124
    go_wp2
    go_ret
    exact ⟨by rw [HB.out]; rfl, rfl⟩
  have b1 : decide (c < 33) = false := by simpa using h1
  by_cases h2 : 126 < c
  · have b2 : decide (126 < c) = true := by simpa using h2
    rw [b1, b2] at hb
    have HB := Kp.mk hb
    clear hb
    go_enter Tryz.func124, Tryz.ntmps124
    go_wp2
    go_ret
    exact ⟨by rw [HB.out]; rfl, rfl⟩
  have b2 : decide (126 < c) = false := by simpa using h2
  by_cases h3 : c = 46
  · subst h3
    clear hb
    go_enter Tryz.func124, Tryz.ntmps124
    go_wp2
    go_ret
    exact ⟨rfl, rfl⟩
  have b3 : (c == 46) = false := by simpa using h3
  by_cases h4 : 65 ≤ c
  · have b4 : decide (65 ≤ c) = true := by simpa using h4
    by_cases h5 : c ≤ 90
    · have b5 : decide (c ≤ 90) = true := by simpa using h5
      rw [b1, b2, b3, b4, b5] at hb
      have HB := Kp.mk hb
      clear hb
      go_enter Tryz.func124, Tryz.ntmps124
      go_wp2
      go_ret
      exact ⟨by rw [HB.out]; rfl, rfl⟩
    · have b5 : decide (c ≤ 90) = false := by simpa using h5
      rw [b1, b2, b3, b4, b5] at hb
      have HB := Kp.mk hb
      clear hb
      go_enter Tryz.func124, Tryz.ntmps124
      go_wp2
      go_ret
      exact ⟨by rw [HB.out]; rfl, rfl⟩
  · have b4 : decide (65 ≤ c) = false := by simpa using h4
    rw [b1, b2, b3, b4] at hb
    have HB := Kp.mk hb
    clear hb
    go_enter Tryz.func124, Tryz.ntmps124
    go_wp2
    go_ret
    exact ⟨by rw [HB.out]; rfl, rfl⟩

/-- slices.IndexFunc, ContainsFunc at label's own function. -/
theorem indexB_calls (A : Option Addr) (n c : Nat) (xs : List Int) (w : World) (h : (Kd.int .u8).C w A n xs) :
    Calls Tryz.prog 125 #[.slice A n c, .func (.func 124) #[] #[]] w fun e w' => (∃ r : Int, e = .returned (.int .i64 r) ∧ decide (0 ≤ r) = xs.any badB) ∧ w = w' := by
  obtain ⟨hl, hm⟩ := C_len h
  have HC := Kp.mk h
  have HL := Kp.mk hl
  clear h hl
  go_enter Tryz.func125, Tryz.ntmps125
  go_wp2_with (fail)
  go_loop [8] (fun i => ∃ k : Nat, k ≤ n ∧ i = .int .i64 k ∧ Kp ((xs.take k).any badB = false)) (fun i => n - (intOf i).toNat)
  case atStart => exact ⟨0, Nat.zero_le _, rfl, ⟨by simp⟩⟩
  case round =>
    obtain ⟨k, hk, rfl, HA⟩ := hrel
    by_cases hlt : k < n
    · obtain ⟨ad, rfl, hcell⟩ := at_nat HC.out k hlt
      have HT := Kp.mk (take_snoc xs 0 k (by rw [HL.out]; exact hlt))
      obtain ⟨x, hx⟩ : ∃ x, xs.getD k 0 = x := ⟨_, rfl⟩
      have HX := Kp.mk (getD_mem xs 0 k (by rw [HL.out]; exact hlt))
      rw [hx] at hcell HT HX
      clear hx
      by_cases hb : badB x = true
      · go_wp2_with (go_at_call 124; refine (bad_calls _ _).mono ?_; rintro e w' ⟨rfl, rfl⟩)
        go_ret
        exact ⟨⟨k, rfl, by rw [List.any_eq_true.2 ⟨x, HX.out, hb⟩]; simp⟩, rfl⟩
      · have hb' : badB x = false := by simpa using hb
        clear hb
        go_wp2_with (go_at_call 124; refine (bad_calls _ _).mono ?_; rintro e w' ⟨rfl, rfl⟩)
        exact ⟨⟨k + 1, by omega, by go_num, ⟨by rw [HT.out, List.any_append, HA.out]; simp [hb']⟩⟩, by simp [intOf]; omega⟩
    · obtain rfl : k = n := by omega
      have ht : xs.take k = xs := List.take_of_length_le (by rw [HL.out]; omega)
      rw [ht] at HA
      clear ht hlt
      go_wp2
      go_ret
      exact ⟨⟨-1, rfl, by rw [HA.out]; rfl⟩, rfl⟩
theorem containsB_calls (A : Option Addr) (n c : Nat) (xs : List Int) (w : World) (h : (Kd.int .u8).C w A n xs) :
    Calls Tryz.prog 100 #[.slice A n c, .func (.func 124) #[] #[]] w fun e w' => e = .returned (.bool (xs.any badB)) ∧ w = w' := by
  have HC := Kp.mk h
  clear h
  go_enter Tryz.func100, Tryz.ntmps100
  go_wp2_with (fail)
  refine (indexB_calls _ _ _ _ _ HC.out).mono ?_
  rintro e w1 ⟨⟨r, rfl, hr⟩, rfl⟩
  have HR := Kp.mk hr
  clear hr
  go_wp2
  go_ret
  exact ⟨by rw [← HR.out]; rfl, rfl⟩

/-- May a text be a label? -/
def labelB (s : ByteArray) : Bool := decide (1 ≤ s.size) && decide (s.size ≤ 63) && !((bytesOf s).any badB)
theorem label_calls (s : ByteArray) (w : World) (hs : s.size ≤ 9223372036854775807) : Calls Tryz.prog 99 #[.string s] w fun e w' => e = .returned (.bool (labelB s)) ∧ Below w.heap.size w w' := by
  by_cases h1 : 1 ≤ s.size
  · by_cases h2 : s.size ≤ 63
    · have hb : labelB s = !((bytesOf s).any badB) := by simp [labelB, h1, h2]
      rw [hb]
      clear hb
      have kb := fun W => print_bytes (P := Tryz.prog) 9 22 5 Tryz.underlying9 Tryz.underlying22 Tryz.underlying5 s W
      go_enter Tryz.func99, Tryz.ntmps99
      go_wp2_with (fail)
      refine (containsB_calls _ _ _ (bytesOf s) _ (Kd.C_of_reads (bytes_reads _ _ s hs))).mono ?_
      rintro e w1 ⟨rfl, rfl⟩
      go_wp2
      go_ret
      exact ⟨rfl, bytes_below (Below.refl _ _) (Nat.le_refl _) _ _⟩
    · have hb : labelB s = false := by simp [labelB, h2]
      rw [hb]
      clear hb
      have b1 : decide (s.size ≤ 63) = false := by simpa using h2
      go_enter Tryz.func99, Tryz.ntmps99
      go_wp2
      go_ret
      exact ⟨rfl, Below.refl _ _⟩
  · have hb : labelB s = false := by simp [labelB, h1]
    rw [hb]
    clear hb
    have b1 : decide (1 ≤ s.size) = false := by simpa using h1
    go_enter Tryz.func99, Tryz.ntmps99
    go_wp2
    go_ret
    exact ⟨rfl, Below.refl _ _⟩
end Go.Proofs.YtlkneoednkhleaaGreatDoor
