/-
  The law NamePointers: pointers that lead back are followed; one that does not lead back is told: the walk.
-/
import Derived.Test.YtimaliamidgflaaDoorNpA
import Derived.Test.YtimaliamidgflaaDoorAwake12
namespace Go.Proofs.YtimaliamidgflaaDoor
open Go.RowKit Go.Proofs.YtimaliamidgflaaDoorW.PrintWords
set_option maxRecDepth 100000
set_option maxHeartbeats 1000000

theorem namePointers_walk (a0 : Int) (l0 : -9223372036854775808 ≤ a0) (u0 : a0 ≤ 9223372036854775807) (a1 : Int) (l1 : -9223372036854775808 ≤ a1) (u1 : a1 ≤ 9223372036854775807) (w : World) (hE : Env w) :
    Calls Tryd.prog 7 #[.int .i64 a0, .int .i64 a1] w fun e w' => e = .returned (.bool true) ∧ Below w.heap.size w w' := by
  have HE := Kp.mk hE
  clear hE
  obtain ⟨N, hN, hNe⟩ := umod a0 40 (by decide) (by decide)
  have HR0 := Kp.mk (lit_bytes w w.heap.size [1, 97, 0] (Nat.le_refl _) (by decide))
  go_enter Tryd.func7, Tryd.ntmps7
  go_wp2_with (fail)
  go_loopw [5, 6, 7] (fun b want i wr => ∃ k : Nat, k ≤ N + 1 ∧ i = .int .i64 k ∧ want = .string (mkB (wantP k)) ∧ Kp (Below w.heap.size w wr) ∧ Kp ((Kd.int .u8).R 5 wr w.heap.size (fun _ => True) b (bP k))) (fun _ _ i _ => N + 1 - (intOf i).toNat)
  case atStart => exact ⟨0, Nat.zero_le _, rfl, rfl, ⟨(Below.refl _ _).alloc (Nat.le_refl _) _⟩, HR0⟩
  case round =>
    obtain ⟨k, hk, rfl, rfl, HW, HR⟩ := hrel
    clear hNe
    by_cases hlt : k < N + 1
    · have bl : decide ((k : Int) < 1 + (N : Int)) = true := by simp; omega
      have hsz := HW.out.size
      obtain ⟨A, c, rfl⟩ := Kd.R_slice HR.out
      have hk40 : k < 40 := by omega
      have hlen := bP_len k
      have hws := want_sz k
      by_cases h0 : 0 < k
      · have HZ := Kp.mk (ptr_pos k h0 hk40)
        go_wp2_with (at_builtin; with_reducible refine gate_builtin (b := .append) (xs := #[.tmp 34, .tmp 41]) rfl ?_; refine app_four (w0 := w) rfl rfl _ _ _ _ _ rfl rfl HR.out HW.out hsz (by rw [hlen]; omega) ?_)
        intro v1 wa HR1 HW1 hs1
        rw [HZ.out] at HR1
        go_wp2
        exact ⟨⟨k + 1, by omega, by go_num, by rw [want_succ], HW1, HR1⟩, by simp [intOf]; omega⟩
      · obtain rfl : k = 0 := by omega
        go_wp2_with (at_builtin; with_reducible refine gate_builtin (b := .append) (xs := #[.tmp 34, .tmp 41]) rfl ?_; refine app_four (w0 := w) rfl rfl _ _ _ _ _ rfl rfl HR.out HW.out hsz (by rw [hlen]; omega) ?_)
        intro v1 wa HR1 HW1 hs1
        go_wp2
        exact ⟨⟨1, by omega, by go_num, by rw [want_succ], HW1, HR1⟩, by simp [intOf]⟩
    · have bl : decide ((k : Int) < 1 + (N : Int)) = false := by simp; omega
      obtain rfl : k = N + 1 := by omega
      obtain ⟨A, c, rfl⟩ := Kd.R_slice HR.out
      have hsz := HW.out.size
      have hlen := bP_len (N + 1)
      have HP := Kp.mk (readP ⟨N, by omega⟩)
      have HC := Kp.mk (R_C HR.out).1
      go_wp2_with (fail)
      have hla : (3 + 4 * (1 + (N : Int) - 1)) = 3 + 4 * (N : Int) := by omega
      rw [hla, ← hlen]
      refine (read_calls A c (bP (N + 1)) (3 + 4 * (N : Int)) wr _ _ _ HC.out (bP_byts _ (by omega)) (R_C HR.out).2 (R_cap HR.out) (HE.out.below HW.out) (by omega) (by omega) (by omega) HP.out).mono ?_
      rintro e1 w1 ⟨v1, v2, v3, rfl, hm1, hm2, hm3, hb⟩
      obtain rfl : v1 = .string (mkB (wantP (N + 1))) := List.singleton_inj.1 hm1
      obtain rfl : v2 = .int .i64 (3 + 4 * ((N : Int) + 1)) := List.singleton_inj.1 hm2
      obtain rfl := er_open_none (erK.K_of_M hm3)
      have HB1 := Kp.mk (below_step HW.out hb)
      have hC1 := Kd.C_take (m := 3 + 4 * N + 2) (Kd.C_below HC.out hb) (by omega)
      rw [bP_take] at hC1
      have hl2 : (bP N ++ [1, 98]).length = 3 + 4 * N + 2 := by rw [List.length_append, bP_len]; rfl
      have HL2 := Kp.mk hl2
      rw [hl2] at hC1
      have HC1 := Kp.mk hC1
      obtain ⟨M, hM, hMe⟩ := umod a1 1000 (by decide) (by decide)
      have hcc := (R_C HR.out).2
      clear hm1 hm2 hm3 hb HW HR HC hC1 hl2
      rw [hlen] at *
      have hs1 := HB1.out.size
      go_wp2_with (at_builtin; with_reducible refine gate_builtin (b := .append) (xs := #[.const (.slice none 0 0), .tmp 65]) rfl ?_; refine app_bytes (w0 := w) (base := w.heap.size) rfl rfl [] (bP N ++ [1, 98]) A (3 + 4 * N + 2) c rfl rfl (Kd.R_nil _ _ _ _ _) HC1.out HB1.out hs1 (by simp; omega) ?_)
      intro v2 w2 HR2 HB2 hs2
      go_wp2_with (at_builtin; with_reducible refine gate_builtin (b := .append) (xs := #[.tmp 66, .tmp 73]) rfl ?_; refine app_two (w0 := w) (s := .tmp 66) (x := .tmp 73) (v := v2) (base := w.heap.size) rfl rfl _ _ _ rfl rfl HR2.out HB2.out hs2.out (by rw [HL2.out]; omega) ?_)
      intro v3 w3 HR3 HB3 hs3
      obtain ⟨ys, hys⟩ : ∃ ys, ys = bP N ++ [1, 98, 192 + (3 + 4 * (N : Int) + M) / 256, (3 + 4 * (N : Int) + M) % 256] := ⟨_, rfl⟩
      rw [← hys] at HR3
      obtain ⟨hrY, hly, hbY⟩ := readY2 N M (by omega) (by omega) ys hys
      have HYR := Kp.mk hrY
      have HYB := Kp.mk hbY
      clear hys hrY hbY
      obtain ⟨A3, c3, rfl⟩ := Kd.R_slice HR3.out
      have HC3 := Kp.mk (R_C HR3.out)
      have HA3 := Kp.mk (R_cap HR3.out)
      clear HR3
      go_wp2_with (fail)
      rw [← hly]
      refine (read_calls A3 c3 ys (3 + 4 * (N : Int)) w3 _ _ _ HC3.out.1 HYB.out HC3.out.2 HA3.out (HE.out.below HB3.out) (by omega) (by omega) (by omega) HYR.out).mono ?_
      rintro e4 w4 ⟨v4, v5, v6, rfl, hm1, hm2, hm3, hb⟩
      obtain rfl : v4 = .string (mkB []) := List.singleton_inj.1 hm1
      obtain rfl : v5 = .int .i64 0 := List.singleton_inj.1 hm2
      have HF := Kp.mk (erK.K_of_M hm3)
      have HB4 := Kp.mk (below_step HB3.out hb)
      clear hm1 hm2 hm3 hb HC3 HA3 HYR HYB
      rw [hly] at *
      go_wp2_with (fail)
      refine (awake12_calls _ (HE.out.below HB4.out)).mono ?_
      rintro e5 w5 ⟨rfl, hb⟩
      have HB5 := Kp.mk (below_step HB4.out hb)
      have HF5 := Kp.mk (erK.K_below hb HF.out)
      clear hb
      go_wp2_with (fail)
      refine (at_calls 14 _ _).mono ?_
      rintro e6 w6 ⟨rfl, hb⟩
      have HB6 := Kp.mk (below_step HB5.out hb)
      have HF6 := Kp.mk (erK.K_below hb HF5.out)
      clear hb
      go_wp2_with (fail)
      refine (same_calls _ _ _ HF6.out (HE.out.below HB6.out) (.inr (by simp [Er.num]))).mono ?_
      rintro e7 w7 ⟨rfl, hb⟩
      have HB7 := Kp.mk (below_step HB6.out hb)
      clear hb
      go_wp2
      go_ret
      exact ⟨rfl, HB7.out⟩
end Go.Proofs.YtimaliamidgflaaDoor
