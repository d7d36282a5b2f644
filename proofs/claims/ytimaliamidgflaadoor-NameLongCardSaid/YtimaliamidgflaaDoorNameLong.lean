/-
  The law NameLong: as long as may be, and no longer: the walk.
-/
import Derived.Test.YtimaliamidgflaaDoorNlA
import Derived.Test.YtimaliamidgflaaDoorNpA
import Derived.Test.YtimaliamidgflaaDoorSameCode
namespace Go.Proofs.YtimaliamidgflaaDoor
open Go.RowKit Go.Proofs.YtimaliamidgflaaDoorW.PrintWords
set_option maxRecDepth 100000
set_option maxHeartbeats 1000000

theorem xs1_succ (k : Nat) : mkB (xs1 k) ++ (⟨#[120]⟩ : ByteArray) = mkB (xs1 (k + 1)) := by
  apply ByteArray.ext
  apply Array.toList_inj.1
  simp [mkB, xs1, List.replicate_succ']
theorem tail_rep (k z : Nat) : tailJ (List.replicate (k + 1) (xs1 z)) = tailJ (List.replicate k (xs1 z)) ++ 46 :: xs1 z := by
  rw [List.replicate_succ']
  simp [tailJ]
theorem long_succ (k z : Nat) (hk : 0 < k) : longN (k + 1) z = longN k z ++ 46 :: xs1 z := by
  obtain ⟨j, rfl⟩ : ∃ j, k = j + 1 := ⟨k - 1, by omega⟩
  show xs1 z ++ tailJ (List.replicate (j + 1) (xs1 z)) = xs1 z ++ tailJ (List.replicate j (xs1 z)) ++ 46 :: xs1 z
  rw [tail_rep, List.append_assoc]
theorem long_size (k z : Nat) : (longN k z).length ≤ 1 + k * (z + 1) := by
  unfold longN
  rw [← size_long]
  cases k with
  | zero => simp [joinL]
  | succ j =>
    rw [List.replicate_succ]
    have : ∀ r : List L, (tailJ r).length + 1 = sizeOf_ r := by
      intro r
      induction r with
      | nil => rfl
      | cons x r ih => simp [tailJ, sizeOf_] at ih ⊢; omega
    have h := this (List.replicate j (xs1 z))
    simp only [joinL, List.length_append]
    simp [sizeOf_] at h ⊢
    omega
theorem long_one (z : Nat) : longN 1 z = xs1 z := by simp [longN, joinL, tailJ]
theorem wire_rep (k z : Nat) : wireOf (List.replicate (k + 1) (xs1 z)) = wireOf (List.replicate k (xs1 z)) ++ ((z : Int) :: bytesOf (mkB (xs1 z))) := by
  rw [List.replicate_succ', wire_snoc, mkB_size]
  simp [xs1]
theorem long_byts (n z : Nat) (hz : z ≤ 255) : Byts (wireOf (List.replicate n (xs1 z)) ++ [0]) := by
  intro x hx
  rcases List.mem_append.1 hx with hx | hx
  · unfold wireOf at hx
    obtain ⟨l, hl, hxl⟩ := List.mem_flatten.1 hx
    obtain ⟨y, hy, rfl⟩ := List.mem_map.1 hl
    rw [List.eq_of_mem_replicate hy] at hxl
    rcases List.mem_cons.1 hxl with rfl | hxl
    · simp [xs1]; omega
    · obtain ⟨b, hb, rfl⟩ := List.mem_map.1 hxl
      have := b.toNat_lt
      omega
  · rw [List.mem_singleton.1 hx]; decide
theorem cat_dot2 (x y : L) : mkB x ++ (⟨#[46]⟩ : ByteArray) ++ mkB y = mkB (x ++ 46 :: y) := by
  apply ByteArray.ext
  simp [mkB]
theorem nameLong_walk (a0 : Int) (_ : -9223372036854775808 ≤ a0) (_ : a0 ≤ 9223372036854775807) (a1 : Int) (_ : -9223372036854775808 ≤ a1) (_ : a1 ≤ 9223372036854775807) (w : World) (hE : Env w) :
    Calls Tryd.prog 11 #[.int .i64 a0, .int .i64 a1] w fun e w' => e = .returned (.bool true) ∧ Below w.heap.size w w' := by
  have HE := Kp.mk hE
  clear hE
  obtain ⟨Z, hZ, hZe⟩ := umod a1 70 (by decide) (by decide)
  obtain ⟨N, hN, hNe⟩ := umod a0 130 (by decide) (by decide)
  obtain ⟨z, hz⟩ : ∃ z : Nat, 1 + (Z : Int) = (z : Int) := ⟨Z + 1, by omega⟩
  obtain ⟨n, hn⟩ : ∃ n : Nat, 1 + (N : Int) = (n : Int) := ⟨N + 1, by omega⟩
  have hz0 : 0 < z := by omega
  have hz7 : z ≤ 70 := by omega
  have hn0 : 0 < n := by omega
  have hn1 : n ≤ 130 := by omega
  go_enter Tryd.func11, Tryd.ntmps11
  go_wp2_with (fail)
  clear hZ hN hZe hNe hz hn
  go_loopw [5, 6] (fun one i wr => ∃ k : Nat, k ≤ z ∧ i = .int .i64 k ∧ one = .string (mkB (xs1 k)) ∧ Kp (w = wr)) (fun _ i _ => z - (intOf i).toNat)
  case atStart => exact ⟨0, Nat.zero_le _, rfl, rfl, ⟨rfl⟩⟩
  case round =>
    obtain ⟨k, hk, rfl, rfl, HWR⟩ := hrel
    obtain rfl := HWR.out
    clear HWR
    have hxz : (mkB (xs1 k)).size = k := by rw [mkB_size]; simp [xs1]
    by_cases hlt : k < z
    · go_wp2
      exact ⟨⟨k + 1, by omega, by go_num, by rw [xs1_succ], ⟨trivial⟩⟩, by simp [intOf]; omega⟩
    · obtain rfl : k = z := by omega
      clear hlt hk
      go_wp2_with (fail)
      go_loopw [7, 8, 9] (fun s b i wr => ∃ j : Nat, j ≤ n ∧ i = .int .i64 j ∧ s = .string (mkB (longN (if j = 0 then 1 else j) k)) ∧ Kp (Below w.heap.size w wr) ∧ Kp ((Kd.int .u8).R 5 wr w.heap.size (fun _ => True) b (wireOf (List.replicate j (xs1 k))))) (fun _ _ i _ => n - (intOf i).toNat)
      case atStart => exact ⟨0, Nat.zero_le _, rfl, by rw [if_pos rfl, long_one], ⟨Below.refl _ _⟩, ⟨Kd.R_nil _ _ _ _ _⟩⟩
      case round =>
        obtain ⟨j, hj, rfl, rfl, HW, HR⟩ := hrel
        have hsz := HW.out.size
        by_cases hlt : j < n
        · have hwl : (wireOf (List.replicate j (xs1 k))).length ≤ 10000 := by
            have h1 := wire_len (List.replicate j (xs1 k))
            rw [size_long] at h1
            have : j * (k + 1) ≤ 130 * 71 := Nat.mul_le_mul (by omega) (by omega)
            omega
          have HS := Kp.mk (wire_rep j k)
          by_cases h0 : j = 0
          · subst h0
            have HS0 : Kp (wireOf (List.replicate 1 (xs1 k)) = wireOf [] ++ ((k : Int) :: bytesOf (mkB (xs1 k)))) := ⟨HS.out⟩
            have hw0 : (wireOf ([] : List L)).length = 0 := rfl
            rw [if_pos rfl]
            go_wp2_with (at_builtin; with_reducible refine gate_builtin (b := .append) (xs := #[.tmp 45, .tmp 48]) rfl ?_; refine app_byte (w0 := w) (s := .tmp 45) (x := .tmp 48) rfl rfl (wireOf (List.replicate 0 (xs1 k))) _ rfl rfl HR.out HW.out hsz (by omega) ?_)
            intro v1 wa HR1 HW1 hs1
            go_wp2_with (at_builtin; (with_reducible refine gate_builtin (b := .append) (xs := #[.tmp 49, .tmp 50]) rfl ?_; refine app_str (w0 := w) (s := .tmp 49) (x := .tmp 50) rfl rfl _ _ rfl rfl HR1.out HW1.out hs1.out (by simp only [List.length_append, List.length_singleton]; omega) ?_))
            intro v2 wb HR2 HW2 hs2
            rw [← HS0.out] at HR2
            go_wp2
            exact ⟨⟨1, by omega, by go_num, rfl, HW2, HR2⟩, by simp [intOf]; omega⟩
          · have hj0 : 0 < j := by omega
            rw [if_neg h0]
            have HL := Kp.mk (long_succ j k hj0)
            have hls : (mkB (longN j k)).size ≤ 10000 := by
              rw [mkB_size]
              have := long_size j k
              have : j * (k + 1) ≤ 130 * 71 := Nat.mul_le_mul (by omega) (by omega)
              omega
            go_wp2_with (at_builtin; with_reducible refine gate_builtin (b := .append) (xs := #[.tmp 45, .tmp 48]) rfl ?_; refine app_byte (w0 := w) (s := .tmp 45) (x := .tmp 48) rfl rfl _ _ rfl rfl HR.out HW.out hsz (by omega) ?_)
            intro v1 wa HR1 HW1 hs1
            go_wp2_with (at_builtin; with_reducible refine gate_builtin (b := .append) (xs := #[.tmp 49, .tmp 50]) rfl ?_; refine app_str (w0 := w) (s := .tmp 49) (x := .tmp 50) rfl rfl _ _ rfl rfl HR1.out HW1.out hs1.out (by simp only [List.length_append, List.length_singleton]; omega) ?_)
            intro v2 wb HR2 HW2 hs2
            rw [← HS.out] at HR2
            go_wp2
            exact ⟨⟨j + 1, by omega, by go_num, by rw [if_neg (by omega), HL.out, cat_dot2], HW2, HR2⟩, by simp [intOf]; omega⟩
        · obtain rfl : j = n := by omega
          rw [if_neg (by omega)]
          have hwl : (wireOf (List.replicate j (xs1 k))).length ≤ 10000 := by
            have h1 := wire_len (List.replicate j (xs1 k))
            rw [size_long] at h1
            have : j * (k + 1) ≤ 130 * 71 := Nat.mul_le_mul (by omega) (by omega)
            omega
          go_wp2_with (at_builtin; with_reducible refine gate_builtin (b := .append) (xs := #[.tmp 52, .tmp 53]) rfl ?_; refine app_byte (w0 := w) (s := .tmp 52) (x := .tmp 53) rfl rfl _ _ rfl rfl HR.out HW.out hsz (by omega) ?_)
          intro v1 wa HR1 HW1 hs1
          obtain ⟨A3, c3, rfl⟩ := Kd.R_slice HR1.out
          have HC3 := Kp.mk (R_C HR1.out)
          have HA3 := Kp.mk (R_cap HR1.out)
          have HBY := Kp.mk (long_byts j k (by omega))
          obtain ⟨nm, en, er, hrd, hcase⟩ := long_read j k hn0 hn1 hz0 hz7
          have HRD := Kp.mk hrd
          have hrt := right_long j k hn0 hz0
          have hll := long_len j k
          have hls : (mkB (longN j k)).size ≤ 10000 := by
            rw [mkB_size]
            have := long_size j k
            have : j * (k + 1) ≤ 130 * 71 := Nat.mul_le_mul (by omega) (by omega)
            omega
          obtain ⟨xs, hxs⟩ : ∃ xs, wireOf (List.replicate j (xs1 k)) ++ [0] = xs := ⟨_, rfl⟩
          obtain ⟨nmL, hnl⟩ : ∃ nmL, longN j k = nmL := ⟨_, rfl⟩
          obtain ⟨m, hm⟩ : ∃ m, j * (k + 1) = m := ⟨_, rfl⟩
          have hm2 : m ≤ 9230 := by
            have : j * (k + 1) ≤ 130 * 71 := Nat.mul_le_mul (by omega) (by omega)
            omega
          have hjm : (j : Int) * ((k : Int) + 1) = (m : Int) := by rw [← hm]; simp
          rw [hxs] at HC3 HBY HRD hll ⊢
          rw [hnl] at hls hrt hcase ⊢
          rw [hm] at hll hrt hcase
          clear hxs hnl hm hrd HR1 HR hwl
          rcases hcase with ⟨h6, h2, rfl, rfl⟩ | ⟨h6, ea, ec, rfl⟩ | ⟨h2, h6, ea, rfl⟩
          · have hr2 : rightL nm = true := by rw [hrt]; simp; omega
            have HRT := Kp.mk hr2
            have b6 : decide ((k : Int) ≤ 63) = true := by simp; omega
            have b2 : decide ((m : Int) + 1 ≤ 255) = true := by simp; omega
            clear hrt hr2
            go_wp2_with (fail)
            refine (write_good (mkB nm) _ (HE.out.below HW1.out) (by omega) (by rw [mkB_toList, HRT.out])).mono ?_
            rintro e1 w1 ⟨y1, y2, rfl, hm1, hm2, hb⟩
            obtain rfl := er_open_none (erK.K_of_M hm2)
            have HB1 := Kp.mk (below_step HW1.out hb)
            have HC4 := Kp.mk (Kd.C_below HC3.out.1 hb)
            clear hm1 hm2 hb
            go_wp2_with (fail)
            rw [← hll]
            refine (read_calls A3 c3 xs 0 _ _ _ _ HC4.out HBY.out HC3.out.2 HA3.out (HE.out.below HB1.out) (by omega) (by decide) (by decide) HRD.out).mono ?_
            rintro e2 w2 ⟨z1, z2, z3, rfl, hm1, hm2, hm3, hb⟩
            obtain rfl : z1 = .string (mkB nm) := List.singleton_inj.1 hm1
            obtain rfl : z2 = .int .i64 en := List.singleton_inj.1 hm2
            obtain rfl := er_open_none (erK.K_of_M hm3)
            have HB2 := Kp.mk (below_step HB1.out hb)
            clear hm1 hm2 hm3 hb HC4
            rw [hll]
            go_wp2_with (fail)
            refine (awake12_calls _ (HE.out.below HB2.out)).mono ?_
            rintro e3 w3 ⟨rfl, hb⟩
            have HB3 := Kp.mk (below_step HB2.out hb)
            clear hb
            go_wp2_with (fail)
            refine (right_calls (mkB nm) _ (HE.out.below HB3.out) (by omega)).mono ?_
            rintro e4 w4 ⟨rfl, hb⟩
            have HB4 := Kp.mk (below_step HB3.out hb)
            clear hb
            rw [mkB_toList, HRT.out]
            go_wp2
            go_ret
            exact ⟨rfl, HB4.out⟩
          · have hr2 : rightL nmL = false := by rw [hrt]; simp; omega
            have HRT := Kp.mk hr2
            have b6 : decide ((k : Int) ≤ 63) = false := by simp; omega
            have b7 : decide (63 < (k : Int)) = true := by simp; omega
            clear hrt hr2
            go_wp2_with (fail)
            refine (write_bad (mkB nmL) _ (HE.out.below HW1.out) (by omega) (by rw [mkB_toList, HRT.out])).mono ?_
            rintro e1 w1 ⟨y1, y2, rfl, hm1, hm2, hb⟩
            obtain rfl := er_open_code (erK.K_of_M hm2)
            have HB1 := Kp.mk (below_step HW1.out hb)
            have HC4 := Kp.mk (Kd.C_below HC3.out.1 hb)
            clear hm1 hm2 hb
            go_wp2_with (fail)
            rw [← hll]
            refine (read_calls A3 c3 xs 0 _ _ _ _ HC4.out HBY.out HC3.out.2 HA3.out (HE.out.below HB1.out) (by omega) (by decide) (by decide) HRD.out).mono ?_
            rintro e2 w2 ⟨z1, z2, z3, rfl, hm1, hm2, hm3, hb⟩
            obtain rfl : z1 = .string (mkB nm) := List.singleton_inj.1 hm1
            obtain rfl : z2 = .int .i64 en := List.singleton_inj.1 hm2
            have HF := Kp.mk (erK.K_of_M hm3)
            have HB2 := Kp.mk (below_step HB1.out hb)
            clear hm1 hm2 hm3 hb HC4
            rw [hll]
            obtain ⟨p, rfl, hp⟩ := er_open_fault HF.out
            go_wp2_with (fail)
            refine (awake12_calls _ (HE.out.below HB2.out)).mono ?_
            rintro e3 w3 ⟨rfl, hb⟩
            have HB3 := Kp.mk (below_step HB2.out hb)
            have HF3 := Kp.mk (erK.K_below hb HF.out)
            clear hb
            go_wp2_with (fail)
            refine (right_calls (mkB nmL) _ (HE.out.below HB3.out) (by omega)).mono ?_
            rintro e4 w4 ⟨rfl, hb⟩
            have HB4 := Kp.mk (below_step HB3.out hb)
            have HF4 := Kp.mk (erK.K_below hb HF3.out)
            clear hb
            rw [mkB_toList, HRT.out]
            go_wp2
            go_ret
            exact ⟨rfl, HB4.out⟩
          · have hr2 : rightL nmL = false := by rw [hrt]; simp; omega
            have HRT := Kp.mk hr2
            have b6 : decide ((k : Int) ≤ 63) = true := by simp; omega
            have b7 : decide (63 < (k : Int)) = false := by simp; omega
            have b2 : decide ((m : Int) + 1 ≤ 255) = false := by simp; omega
            clear hrt hr2
            go_wp2_with (fail)
            refine (write_bad (mkB nmL) _ (HE.out.below HW1.out) (by omega) (by rw [mkB_toList, HRT.out])).mono ?_
            rintro e1 w1 ⟨y1, y2, rfl, hm1, hm2, hb⟩
            obtain rfl := er_open_code (erK.K_of_M hm2)
            have HB1 := Kp.mk (below_step HW1.out hb)
            have HC4 := Kp.mk (Kd.C_below HC3.out.1 hb)
            clear hm1 hm2 hb
            go_wp2_with (fail)
            rw [← hll]
            refine (read_calls A3 c3 xs 0 _ _ _ _ HC4.out HBY.out HC3.out.2 HA3.out (HE.out.below HB1.out) (by omega) (by decide) (by decide) HRD.out).mono ?_
            rintro e2 w2 ⟨z1, z2, z3, rfl, hm1, hm2, hm3, hb⟩
            obtain rfl : z1 = .string (mkB nm) := List.singleton_inj.1 hm1
            obtain rfl : z2 = .int .i64 en := List.singleton_inj.1 hm2
            have HF := Kp.mk (erK.K_of_M hm3)
            have HB2 := Kp.mk (below_step HB1.out hb)
            clear hm1 hm2 hm3 hb HC4
            rw [hll]
            obtain ⟨p, rfl, hp⟩ := er_open_fault HF.out
            go_wp2_with (fail)
            refine (awake12_calls _ (HE.out.below HB2.out)).mono ?_
            rintro e3 w3 ⟨rfl, hb⟩
            have HB3 := Kp.mk (below_step HB2.out hb)
            have HF3 := Kp.mk (erK.K_below hb HF.out)
            clear hb
            go_wp2_with (fail)
            refine (right_calls (mkB nmL) _ (HE.out.below HB3.out) (by omega)).mono ?_
            rintro e4 w4 ⟨rfl, hb⟩
            have HB4 := Kp.mk (below_step HB3.out hb)
            have HF4 := Kp.mk (erK.K_below hb HF3.out)
            clear hb
            rw [mkB_toList, HRT.out]
            go_wp2_with (fail)
            refine (scode_calls _ _ _ HF4.out (HE.out.below HB4.out)).mono ?_
            rintro e5 w5 ⟨rfl, hb⟩
            have HB5 := Kp.mk (below_step HB4.out hb)
            clear hb
            go_wp2
            go_ret
            exact ⟨rfl, HB5.out⟩
end Go.Proofs.YtimaliamidgflaaDoor
