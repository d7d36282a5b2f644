/-
  The statements of layer 12: awake answers true.
-/
import Derived.Test.YtimaliamidgflaaDoorNameF
import Derived.Test.YtimaliamidgflaaDoorSame
namespace Go.Proofs.YtimaliamidgflaaDoor
open Go.RowKit Go.Proofs.YtimaliamidgflaaDoorW.PrintWords
set_option linter.unusedVariables false
set_option linter.unusedSimpArgs false
set_option maxRecDepth 100000
set_option maxHeartbeats 1000000

theorem lit_bytes (W : World) (base : Nat) (xs : List Int) (hb : base ≤ W.heap.size) (hm : xs.length ≤ 9223372036854775807) :
    (Kd.int .u8).R 5 (W.alloc (.cells (xs.map (Value.int .u8)).toArray 5)) base (fun _ => True) (.slice (some ⟨W.heap.size, 0, none⟩) xs.length xs.length) xs :=
  Kd.R_of_own (by have h := own_lit W base 5 .u8 xs hb hm; simpa [nums, encs] using h) (fun _ _ => trivial)
theorem readN_awake : readF ((0 : Int).toNat * 300 + 301) [1, 65, 0] 0 0 (-1) [] = ([97], 3, .none) := by decide +kernel
theorem right_awake : rightL (mkB [97, 46, 98]).data.toList = true := by decide +kernel
theorem labels_awake : labelsOf (mkB [97, 46, 98]).data.toList = [[97], [98]] := by decide +kernel
theorem under_awake : underL (mkB [98, 46, 97]).data.toList (mkB [97]).data.toList = true := by decide +kernel
theorem awake12_calls (w : World) (hE : Env w) : Calls Tryd.prog 26 #[] w fun e w' => e = .returned (.bool true) ∧ Below w.heap.size w w' := by
  have HE := Kp.mk hE
  have hR := lit_bytes w w.heap.size [1, 65, 0] (Nat.le_refl _) (by decide)
  have HC := Kp.mk (R_C hR).1
  have HB0 := Kp.mk ((Below.refl w.heap.size w).alloc (Nat.le_refl _) (.cells (([1, 65, 0] : List Int).map (Value.int .u8)).toArray 5))
  clear hE hR
  go_enter Tryd.func26, Tryd.ntmps26
  go_wp2_with (fail)
  refine (read_calls _ _ [1, 65, 0] 0 _ _ _ _ HC.out (by unfold Byts; decide) (by decide) (by decide) (HE.out.below HB0.out) (by decide) (by decide) (by decide) readN_awake).mono ?_
  rintro e1 w1 ⟨v1, v2, v3, rfl, hm1, hm2, hm3, hb⟩
  obtain rfl : v1 = .string (mkB [97]) := List.singleton_inj.1 hm1
  obtain rfl : v2 = .int .i64 3 := List.singleton_inj.1 hm2
  obtain rfl := er_open_none (erK.K_of_M hm3)
  have HB1 := Kp.mk (below_step HB0.out hb)
  have b1 : (mkB [97]).toList = [97] := by rw [ByteArray.toList_eq]; rfl
  clear hm1 hm2 hm3 hb HB0 HC
  go_wp2_with (fail)
  refine (right_calls (mkB [97, 46, 98]) _ (HE.out.below HB1.out) (by decide)).mono ?_
  rintro e2 w2 ⟨rfl, hb⟩
  rw [right_awake]
  have HB2 := Kp.mk (below_step HB1.out hb)
  clear hb
  go_wp2_with (fail)
  refine (under_calls (mkB [98, 46, 97]) (mkB [97]) _ (by decide) (by decide)).mono ?_
  rintro e2 w3 ⟨rfl, rfl⟩
  rw [under_awake]
  go_wp2_with (fail)
  refine (labels_calls (mkB [97, 46, 98]) _ (HE.out.below HB2.out) (by decide)).mono ?_
  rintro e2 w4 ⟨v, rfl, hm, hb⟩
  rw [labels_awake] at hm
  obtain ⟨A, c, rfl, hc, hC⟩ := slice_open (strsK.K_of_M hm)
  have HB4 := Kp.mk (below_step HB2.out hb)
  clear hm hb hC hc
  go_wp2
  go_ret
  exact ⟨rfl, HB4.out⟩
end Go.Proofs.YtimaliamidgflaaDoor
