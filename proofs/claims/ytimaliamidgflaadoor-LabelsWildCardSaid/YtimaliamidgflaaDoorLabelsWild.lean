/-
  The law LabelsWild: a wild pattern stands for all that is under it, and not for it itself; a plain one for it alone: the walk.
-/
import Derived.Test.YtimaliamidgflaaDoorLbE
import Derived.Test.YtimaliamidgflaaDoorLwA
import Derived.Test.YtimaliamidgflaaDoorPlayN
import Derived.Test.YtimaliamidgflaaDoorNuA
namespace Go.Proofs.YtimaliamidgflaaDoor
open Go.RowKit Go.Proofs.YtimaliamidgflaaDoorW.PrintWords
set_option linter.unusedVariables false
set_option linter.unusedSimpArgs false
set_option maxRecDepth 100000
set_option maxHeartbeats 1000000

theorem catW (x y : L) : mkB x ++ (⟨#[46]⟩ : ByteArray) ++ mkB y = mkB (x ++ 46 :: y) := by
  apply ByteArray.ext
  simp [mkB]
theorem catX (y : L) : (⟨#[120]⟩ : ByteArray) ++ mkB y = mkB (120 :: y) := by
  apply ByteArray.ext
  simp [mkB]
theorem catXD (y : L) : (⟨#[120, 46]⟩ : ByteArray) ++ mkB y = mkB (120 :: 46 :: y) := by
  apply ByteArray.ext
  simp [mkB]
theorem labelsWild_walk (s0 : ByteArray) (h0 : s0.size ≤ 9223372036854775807) (s1 : ByteArray) (h1 : s1.size ≤ 9223372036854775807) (a2 : Int) (_ : -9223372036854775808 ≤ a2) (_ : a2 ≤ 9223372036854775807) (w : World) (hE : EnvM w) :
    Calls Tryd.prog 6 #[.string s0, .string s1, .int .i64 a2] w fun e w' => e = .returned (.bool true) ∧ Below w.heap.size w w' := by
  have HE := Kp.mk hE
  have HS := Kp.mk (StM.start hE)
  clear hE
  obtain ⟨z, hz⟩ : ∃ p, playN s0.data.toList = p := ⟨_, rfl⟩
  obtain ⟨m, hm⟩ : ∃ q, playN s1.data.toList = q := ⟨_, rfl⟩
  have hzl : z.length ≤ 60 := by rw [← hz]; exact (playN_right _).2
  have hml : m.length ≤ 60 := by rw [← hm]; exact (playN_right _).2
  have hzs : (mkB z).size ≤ 60 := hzl
  have hms : (mkB m).size ≤ 60 := hml
  have HP := Kp.mk (playname_calls s0 w h0)
  rw [hz] at HP
  have HQ := Kp.mk (fun w => playname_calls s1 w h1)
  rw [hm] at HQ
  clear hz hm
  obtain ⟨N, hN, hNe⟩ := umod a2 4 (by decide) (by decide)
  go_enter Tryd.func6, Tryd.ntmps6
  go_wp2_with (fail)
  refine bM_ HP.out HS ?_
  intro w1 HB1 HS1
  go_wp2_with (fail)
  refine bM_ (HQ.out _) HS1 ?_
  intro w2 HB2 HS2
  go_wp2_with (fail)
  refine new_ HS2 HE ?_
  intro tb w3 HB3 HT3
  go_wp2_with (fail)
  refine bM_ (awake20_calls _ HT3.out.st.env) (Kp.mk HT3.out.st) ?_
  intro w4 HB4 HS4
  have HT4 := Kp.mk (HT3.out.step HB4.out)
  by_cases hz0 : z = []
  · subst hz0
    have b0 : (mkB []).toList.isEmpty = true := by rw [ByteArray.toList_eq]; rfl
    go_wp2_with (fail)
    refine bM_ (awake20_calls _ HS4.out.env) HS4 ?_
    intro w5 HB5 HS5
    go_wp2
    go_ret
    exact ⟨rfl, HS5.out.below⟩
  have b0 : (mkB z).toList.isEmpty = false := by rw [ByteArray.toList_eq]; simpa [mkB] using hz0
  go_wp2_with (fail)
  refine add_ HT4 (mkB z) true 1 (by rw [mkB_size]; omega) (by decide) (by decide) ?_
  intro w5 HT5 HB5
  go_wp2_with (fail)
  refine add_ HT5 (mkB z) false 2 (by rw [mkB_size]; omega) (by decide) (by show 1 ≤ 1000000; decide) ?_
  intro w6 HT6a HB6
  rw [mkB_toList, List.nil_append, List.cons_append, List.nil_append] at HT6a
  have HT6 : Kp (Tr w w6 w2.heap.size (0 + 10001 + 10001) tb (zonePs (pathOf z))) := HT6a
  have hps : (zonePs (pathOf z)).length ≤ 1000000 := by show 2 ≤ 1000000; decide
  clear HT6a
  go_wp2_with (fail)
  go_loopw [8, 9] (fun s i wr => ∃ k : Nat, k ≤ N ∧ i = .int .i64 (k : Int) ∧ s = .string (mkB (xN k z)) ∧ Kp (w6 = wr)) (fun _ i _ => N - (intOf i).toNat)
  case atStart => exact ⟨0, Nat.zero_le _, rfl, rfl, ⟨rfl⟩⟩
  case round =>
    obtain ⟨k, hk, rfl, rfl, HWR⟩ := hrel
    obtain rfl := HWR.out
    clear HWR hNe
    have hxl : (mkB (xN k z)).size ≤ 100 := by rw [mkB_size, xN_len]; omega
    by_cases hlt : k < N
    · go_wp2
      exact ⟨⟨k + 1, by omega, by go_num, by rw [catXD]; rfl, ⟨trivial⟩⟩, by simp [intOf]; omega⟩
    · obtain rfl : k = N := by omega
      have HX := Kp.mk (wild_under z hz0 k)
      obtain ⟨r, hr⟩ : ∃ r : Int, (if k = 0 then ([2] : List Int) else [1]) = [r] := by by_cases h : k = 0 <;> simp [h]
      rw [hr] at HX
      have hk3 : k < 4 := by omega
      by_cases hk0 : k = 0
      · subst hk0
        rw [if_pos rfl] at hr
        obtain rfl : (2 : Int) = r := List.singleton_inj.1 hr
        clear hr
        have hl := lit_ints (w6.alloc (.cells (([1] : List Int).map (Value.int .i64)).toArray 3)) (w6.alloc (.cells (([1] : List Int).map (Value.int .i64)).toArray 3)).heap.size [2] (Nat.le_refl _) (by decide)
        have esz : (w6.alloc (.cells (([1] : List Int).map (Value.int .i64)).toArray 3)).heap.size = w6.heap.size + 1 := by simp
        rw [esz] at hl
        clear esz
        have HL := Kp.mk (R_C hl).1
        have HBL := Kp.mk (((Below.refl w6.heap.size w6).alloc (Nat.le_refl _) (.cells (([1] : List Int).map (Value.int .i64)).toArray 3)).alloc (by simp) (.cells (([2] : List Int).map (Value.int .i64)).toArray 3))
        have HT7 := Kp.mk (HT6.out.step HBL.out)
        clear hl
        go_wp2_with (fail)
        refine match_ HT7 (mkB (xN 0 z)) (by omega) hps ?_
        intro A7 c7 w7 hc7 HC7 HB7 HT8
        rw [mkB_toList, HX.out] at *
        have HL7 := Kp.mk (Kd.C_below HL.out HB7.out)
        go_wp2_with (fail)
        refine bM_ (plaini_calls _ _ _ _ _ _ [2] _ HC7.out HL7.out) (Kp.mk HT8.out.st) ?_
        intro w8 HB8 HS8
        have HT9 := Kp.mk (HT8.out.step HB8.out)
        clear HX HL HL7 HC7 HT8 HT7 HBL
        go_wp2_with (fail)
        refine match_ HT9 (mkB z) (by rw [mkB_size]; omega) hps ?_
        intro A8 c8 w9 hc8 HC8 HB9 HT10
        rw [mkB_toList, wild_self] at *
        have hl8 := lit_ints w9 w9.heap.size [2] (Nat.le_refl _) (by decide)
        have HL8 := Kp.mk (R_C hl8).1
        have HBM := Kp.mk ((Below.refl w9.heap.size w9).alloc (Nat.le_refl _) (.cells (([2] : List Int).map (Value.int .i64)).toArray 3))
        have HC8a := Kp.mk (Kd.C_below HC8.out HBM.out)
        have HT11 := Kp.mk (HT10.out.step HBM.out)
        clear hl8
        go_wp2_with (fail)
        refine bM_ (plaini_calls _ _ _ _ _ _ [2] _ HC8a.out HL8.out) (Kp.mk HT11.out.st) ?_
        intro w10 HB10 HS10
        have HT12 := Kp.mk (HT11.out.step HB10.out)
        clear HL8 HC8 HC8a HT9 HT10 HT11 HBM
        go_wp2_with (fail)
        rw [catX]
        refine match_ HT12 (mkB (120 :: z)) (by rw [mkB_size, List.length_cons]; omega) hps ?_
        intro A9 c9 w11 hc9 HC9 HB11 HT13
        rw [mkB_toList, wild_longer z hz0] at *
        by_cases hm0 : m = []
        · subst hm0
          have b1 : (mkB []).toList.isEmpty = true := by rw [ByteArray.toList_eq]; rfl
          go_wp2
          go_ret
          exact ⟨rfl, HT13.out.st.below⟩
        · have b1 : (mkB m).toList.isEmpty = false := by rw [ByteArray.toList_eq]; simpa [mkB] using hm0
          go_wp2_with (fail)
          rw [catW]
          refine match_ HT13 (mkB (m ++ 46 :: z)) (by rw [mkB_size, List.length_append, List.length_cons]; omega) hps ?_
          intro A10 c10 w12 hc10 HC10 HB12 HT14
          rw [mkB_toList, wild_more m z hz0] at *
          have hl9 := lit_ints w12 w12.heap.size [1] (Nat.le_refl _) (by decide)
          have HL9 := Kp.mk (R_C hl9).1
          have HBN := Kp.mk ((Below.refl w12.heap.size w12).alloc (Nat.le_refl _) (.cells (([1] : List Int).map (Value.int .i64)).toArray 3))
          have HC10a := Kp.mk (Kd.C_below HC10.out HBN.out)
          have HT15 := Kp.mk (HT14.out.step HBN.out)
          clear hl9
          go_wp2_with (fail)
          refine bM_ (plaini_calls _ _ _ _ _ _ [1] _ HC10a.out HL9.out) (Kp.mk HT15.out.st) ?_
          intro w13 HB13 HS13
          go_wp2
          go_ret
          exact ⟨rfl, HS13.out.below⟩
      · have bk0 : ((k : Int) == 0) = false := by simp; omega
        rw [if_neg hk0] at hr
        obtain rfl : (1 : Int) = r := List.singleton_inj.1 hr
        clear hr
        have hl := lit_ints w6 w6.heap.size [1] (Nat.le_refl _) (by decide)
        have HL := Kp.mk (R_C hl).1
        have HBL := Kp.mk ((Below.refl w6.heap.size w6).alloc (Nat.le_refl _) (.cells (([1] : List Int).map (Value.int .i64)).toArray 3))
        have HT7 := Kp.mk (HT6.out.step HBL.out)
        clear hl
        go_wp2_with (fail)
        refine match_ HT7 (mkB (xN k z)) (by omega) hps ?_
        intro A7 c7 w7 hc7 HC7 HB7 HT8
        rw [mkB_toList, HX.out] at *
        have HL7 := Kp.mk (Kd.C_below HL.out HB7.out)
        go_wp2_with (fail)
        refine bM_ (plaini_calls _ _ _ _ _ _ [1] _ HC7.out HL7.out) (Kp.mk HT8.out.st) ?_
        intro w8 HB8 HS8
        have HT9 := Kp.mk (HT8.out.step HB8.out)
        clear HX HL HL7 HC7 HT8 HT7 HBL
        go_wp2_with (fail)
        refine match_ HT9 (mkB z) (by rw [mkB_size]; omega) hps ?_
        intro A8 c8 w9 hc8 HC8 HB9 HT10
        rw [mkB_toList, wild_self] at *
        have hl8 := lit_ints w9 w9.heap.size [2] (Nat.le_refl _) (by decide)
        have HL8 := Kp.mk (R_C hl8).1
        have HBM := Kp.mk ((Below.refl w9.heap.size w9).alloc (Nat.le_refl _) (.cells (([2] : List Int).map (Value.int .i64)).toArray 3))
        have HC8a := Kp.mk (Kd.C_below HC8.out HBM.out)
        have HT11 := Kp.mk (HT10.out.step HBM.out)
        clear hl8
        go_wp2_with (fail)
        refine bM_ (plaini_calls _ _ _ _ _ _ [2] _ HC8a.out HL8.out) (Kp.mk HT11.out.st) ?_
        intro w10 HB10 HS10
        have HT12 := Kp.mk (HT11.out.step HB10.out)
        clear HL8 HC8 HC8a HT9 HT10 HT11 HBM
        go_wp2_with (fail)
        rw [catX]
        refine match_ HT12 (mkB (120 :: z)) (by rw [mkB_size, List.length_cons]; omega) hps ?_
        intro A9 c9 w11 hc9 HC9 HB11 HT13
        rw [mkB_toList, wild_longer z hz0] at *
        by_cases hm0 : m = []
        · subst hm0
          have b1 : (mkB []).toList.isEmpty = true := by rw [ByteArray.toList_eq]; rfl
          go_wp2
          go_ret
          exact ⟨rfl, HT13.out.st.below⟩
        · have b1 : (mkB m).toList.isEmpty = false := by rw [ByteArray.toList_eq]; simpa [mkB] using hm0
          go_wp2_with (fail)
          rw [catW]
          refine match_ HT13 (mkB (m ++ 46 :: z)) (by rw [mkB_size, List.length_append, List.length_cons]; omega) hps ?_
          intro A10 c10 w12 hc10 HC10 HB12 HT14
          rw [mkB_toList, wild_more m z hz0] at *
          have hl9 := lit_ints w12 w12.heap.size [1] (Nat.le_refl _) (by decide)
          have HL9 := Kp.mk (R_C hl9).1
          have HBN := Kp.mk ((Below.refl w12.heap.size w12).alloc (Nat.le_refl _) (.cells (([1] : List Int).map (Value.int .i64)).toArray 3))
          have HC10a := Kp.mk (Kd.C_below HC10.out HBN.out)
          have HT15 := Kp.mk (HT14.out.step HBN.out)
          clear hl9
          go_wp2_with (fail)
          refine bM_ (plaini_calls _ _ _ _ _ _ [1] _ HC10a.out HL9.out) (Kp.mk HT15.out.st) ?_
          intro w13 HB13 HS13
          go_wp2
          go_ret
          exact ⟨rfl, HS13.out.below⟩
end Go.Proofs.YtimaliamidgflaaDoor
