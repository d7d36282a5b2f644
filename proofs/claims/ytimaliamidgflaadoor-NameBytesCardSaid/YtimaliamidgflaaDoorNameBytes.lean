/-
  The law NameBytes: a byte may stand in a label just if it is a sign, no dot, and no capital; read, capitals are made small: the walk.
-/
import Derived.Test.YtimaliamidgflaaDoorPlayN
import Derived.Test.YtimaliamidgflaaDoorNbyA
import Derived.Test.YtimaliamidgflaaDoorAwake12
namespace Go.Proofs.YtimaliamidgflaaDoor
open Go.RowKit Go.Proofs.YtimaliamidgflaaDoorW.PrintWords
set_option maxRecDepth 100000
set_option maxHeartbeats 1000000

theorem one_byte (c : Int) : strOfNums [c] = mkB [UInt8.ofNat c.toNat] := rfl
theorem str_lit (W : World) (d : Int) : Sem.run Tryd.prog (convert 49 9 (.slice (some ⟨W.heap.size, 0, none⟩) 1 1)) (W.alloc (.cells #[.int .u8 d] 5)) = .ok (.string (mkB [UInt8.ofNat d.toNat])) (W.alloc (.cells #[.int .u8 d] 5)) := by
  have kb := Kd.C_string (P := Tryd.prog) Tryd.underlying49 Tryd.underlying5 Tryd.underlying9 (c := 1) (R_C (lit_bytes W W.heap.size [d] (Nat.le_refl _) (by simp))).1
  rw [one_byte] at kb
  exact kb
theorem cat_97 (y : L) : (⟨#[97]⟩ : ByteArray) ++ mkB y = mkB (97 :: y) := by
  apply ByteArray.ext
  simp [mkB]
theorem cat_b1 (y : L) : mkB y ++ (⟨#[46]⟩ : ByteArray) = mkB (y ++ [46]) := by
  apply ByteArray.ext
  simp [mkB]
theorem cat_a1 (y : L) : (⟨#[46]⟩ : ByteArray) ++ mkB y = mkB (46 :: y) := by
  apply ByteArray.ext
  simp [mkB]
theorem cat_m1 (y z : L) : mkB y ++ (⟨#[46, 46]⟩ : ByteArray) ++ mkB z = mkB (y ++ 46 :: 46 :: z) := by
  apply ByteArray.ext
  simp [mkB]
theorem nameBytes_walk (c : Int) (l0 : 0 ≤ c) (u0 : c ≤ 255) (s0 : ByteArray) (h0 : s0.size ≤ 9223372036854775807) (w : World) (hE : Env w) :
    Calls Tryd.prog 9 #[.int .u8 c, .string s0] w fun e w' => e = .returned (.bool true) ∧ Below w.heap.size w w' := by
  have HE := Kp.mk hE
  clear hE
  obtain ⟨p, hp⟩ : ∃ p, playN s0.data.toList = p := ⟨_, rfl⟩
  have hpr := playN_right s0.data.toList
  rw [hp] at hpr
  obtain ⟨hpr, hpl⟩ := hpr
  have hps : (mkB p).size ≤ 60 := hpl
  have HP := Kp.mk (playname_calls s0 w h0)
  rw [hp] at HP
  have HF97 := Kp.mk (right_ahead p hpr hpl)
  have hpp : p.length ≤ 60 := hpl
  clear hp hpr
  go_enter Tryd.func9, Tryd.ntmps9
  go_wp2_with (fail)
  refine HP.out.mono ?_
  rintro e1 w1 ⟨rfl, hb⟩
  have HB1 := Kp.mk hb
  clear hb
  have kb := str_lit w1 c
  have hRC := (R_C (lit_bytes (w1.alloc (.cells #[.int .u8 c] 5)) (w1.heap.size + 1) [1, c, 0] (by simp) (by simp))).1
  have hsz1 : (w1.alloc (.cells #[.int .u8 c] 5)).heap.size = w1.heap.size + 1 := by simp
  rw [hsz1] at hRC
  have HRC := Kp.mk hRC
  have HB2 := Kp.mk ((HB1.out.alloc HB1.out.size (.cells #[.int .u8 c] 5)).alloc (by rw [hsz1]; have := HB1.out.size; omega) (.cells #[.int .u8 1, .int .u8 c, .int .u8 0] 5))
  have HBY : Kp (Byts [1, c, 0]) := ⟨by intro x hx; simp at hx; rcases hx with rfl | rfl | rfl <;> omega⟩
  obtain ⟨m, rfl⟩ := Int.eq_ofNat_of_zero_le l0
  have hrb := right_byte ⟨m, by omega⟩
  have hrd := read_byte ⟨m, by omega⟩
  clear hRC hsz1
  rw [Int.toNat_natCast] at kb
  by_cases c1 : ((m : Nat) : Int) < 33
  · have hb : badB ((m : Nat) : Int) = true := by simp [badB]; omega
    have hlow : lowB ((m : Nat) : Int) = (m : Int) := by unfold lowB; rw [if_neg (by omega)]
    rw [hlow, hb, if_pos rfl] at hrd
    rw [hb] at hrb
    have HRB := Kp.mk hrb
    have HRD := Kp.mk hrd
    clear hrb hrd hb hlow
    go_wp2_with (fail)
    refine (read_calls (some ⟨w1.heap.size + 1, 0, none⟩) 3 [1, (m : Int), 0] 0 _ _ _ _ HRC.out HBY.out (by simp) (by decide) (HE.out.below HB2.out) (by simp) (by decide) (by decide) HRD.out).mono ?_
    rintro e2 w2 ⟨z1, z2, z3, rfl, hm1, hm2, hm3, hb⟩
    obtain rfl : z1 = .string (mkB []) := List.singleton_inj.1 hm1
    obtain rfl : z2 = .int .i64 0 := List.singleton_inj.1 hm2
    have HF := Kp.mk (erK.K_of_M hm3)
    have HB3 := Kp.mk (below_step HB2.out hb)
    clear hm1 hm2 hm3 hb
    obtain ⟨q, rfl, -⟩ := er_open_fault HF.out
    go_wp2_with (fail)
    refine (awake12_calls _ (HE.out.below HB3.out)).mono ?_
    rintro e4 w4 ⟨rfl, hb⟩
    have HB4 := Kp.mk (below_step HB3.out hb)
    have HF4 := Kp.mk (erK.K_below hb HF.out)
    clear hb
    go_wp2_with (fail)
    refine (right_calls (mkB [UInt8.ofNat m]) _ (HE.out.below HB4.out) (by rw [mkB_size]; simp)).mono ?_
    rintro e5 w5 ⟨rfl, hb⟩
    have HB5 := Kp.mk (below_step HB4.out hb)
    have HF5 := Kp.mk (erK.K_below hb HF4.out)
    clear hb
    rw [mkB_toList, HRB.out]
    go_wp2_with (fail)
    refine (at_calls 12 0 _).mono ?_
    rintro e6 w6 ⟨rfl, hb⟩
    have HB6 := Kp.mk (below_step HB5.out hb)
    have HF6 := Kp.mk (erK.K_below hb HF5.out)
    clear hb
    go_wp2_with (fail)
    refine (same_calls _ _ _ HF6.out (HE.out.below HB6.out) (.inr (by simp [Er.num]))).mono ?_
    rintro e7 w7 ⟨rfl, hb⟩
    have HB7 := Kp.mk (below_step HB6.out hb)
    clear hb
    go_wp2_with (fail)
    rw [cat_97]
    have hfs : (mkB (97 :: p)).size ≤ 61 := by rw [mkB_size, List.length_cons]; omega
    refine (right_calls (mkB (97 :: p)) _ (HE.out.below HB7.out) (by rw [mkB_size, List.length_cons]; omega)).mono ?_
    rintro e8 w8 ⟨rfl, hb⟩
    have HB8 := Kp.mk (below_step HB7.out hb)
    clear hb
    rw [mkB_toList, HF97.out]
    go_wp2_with (fail)
    rw [cat_b1]
    refine (right_calls (mkB (97 :: p ++ [46])) _ (HE.out.below HB8.out) (by rw [mkB_size, List.length_append, List.length_cons, List.length_singleton]; omega)).mono ?_
    rintro e9 w9 ⟨rfl, hb⟩
    have HB9 := Kp.mk (below_step HB8.out hb)
    clear hb
    rw [mkB_toList, dot_behind]
    go_wp2_with (fail)
    rw [cat_a1]
    refine (right_calls (mkB (46 :: 97 :: p)) _ (HE.out.below HB9.out) (by rw [mkB_size, List.length_cons, List.length_cons]; omega)).mono ?_
    rintro e10 w10 ⟨rfl, hb⟩
    have HB10 := Kp.mk (below_step HB9.out hb)
    clear hb
    rw [mkB_toList, dot_ahead]
    go_wp2_with (fail)
    rw [cat_m1]
    refine (right_calls (mkB (97 :: p ++ 46 :: 46 :: (97 :: p))) _ (HE.out.below HB10.out) (by rw [mkB_size]; simp only [List.length_append, List.length_cons]; omega)).mono ?_
    rintro e11 w11 ⟨rfl, hb⟩
    have HB11 := Kp.mk (below_step HB10.out hb)
    clear hb
    rw [mkB_toList, dots_between]
    go_wp2
    go_ret
    exact ⟨rfl, HB11.out⟩
  · by_cases c2 : 126 < ((m : Nat) : Int)
    · have hb : badB ((m : Nat) : Int) = true := by simp [badB]; omega
      have hlow : lowB ((m : Nat) : Int) = (m : Int) := by unfold lowB; rw [if_neg (by omega)]
      rw [hlow, hb, if_pos rfl] at hrd
      rw [hb] at hrb
      have b65 : decide (65 ≤ ((m : Nat) : Int)) = true := by simp; omega
      have b90 : decide (((m : Nat) : Int) ≤ 90) = false := by simp; omega
      have HRB := Kp.mk hrb
      have HRD := Kp.mk hrd
      clear hrb hrd hb hlow
      go_wp2_with (fail)
      refine (read_calls (some ⟨w1.heap.size + 1, 0, none⟩) 3 [1, (m : Int), 0] 0 _ _ _ _ HRC.out HBY.out (by simp) (by decide) (HE.out.below HB2.out) (by simp) (by decide) (by decide) HRD.out).mono ?_
      rintro e2 w2 ⟨z1, z2, z3, rfl, hm1, hm2, hm3, hb⟩
      obtain rfl : z1 = .string (mkB []) := List.singleton_inj.1 hm1
      obtain rfl : z2 = .int .i64 0 := List.singleton_inj.1 hm2
      have HF := Kp.mk (erK.K_of_M hm3)
      have HB3 := Kp.mk (below_step HB2.out hb)
      clear hm1 hm2 hm3 hb
      obtain ⟨q, rfl, -⟩ := er_open_fault HF.out
      go_wp2_with (fail)
      refine (awake12_calls _ (HE.out.below HB3.out)).mono ?_
      rintro e4 w4 ⟨rfl, hb⟩
      have HB4 := Kp.mk (below_step HB3.out hb)
      have HF4 := Kp.mk (erK.K_below hb HF.out)
      clear hb
      go_wp2_with (fail)
      refine (right_calls (mkB [UInt8.ofNat m]) _ (HE.out.below HB4.out) (by rw [mkB_size]; simp)).mono ?_
      rintro e5 w5 ⟨rfl, hb⟩
      have HB5 := Kp.mk (below_step HB4.out hb)
      have HF5 := Kp.mk (erK.K_below hb HF4.out)
      clear hb
      rw [mkB_toList, HRB.out]
      go_wp2_with (fail)
      refine (at_calls 12 0 _).mono ?_
      rintro e6 w6 ⟨rfl, hb⟩
      have HB6 := Kp.mk (below_step HB5.out hb)
      have HF6 := Kp.mk (erK.K_below hb HF5.out)
      clear hb
      go_wp2_with (fail)
      refine (same_calls _ _ _ HF6.out (HE.out.below HB6.out) (.inr (by simp [Er.num]))).mono ?_
      rintro e7 w7 ⟨rfl, hb⟩
      have HB7 := Kp.mk (below_step HB6.out hb)
      clear hb
      go_wp2_with (fail)
      rw [cat_97]
      have hfs : (mkB (97 :: p)).size ≤ 61 := by rw [mkB_size, List.length_cons]; omega
      refine (right_calls (mkB (97 :: p)) _ (HE.out.below HB7.out) (by rw [mkB_size, List.length_cons]; omega)).mono ?_
      rintro e8 w8 ⟨rfl, hb⟩
      have HB8 := Kp.mk (below_step HB7.out hb)
      clear hb
      rw [mkB_toList, HF97.out]
      go_wp2_with (fail)
      rw [cat_b1]
      refine (right_calls (mkB (97 :: p ++ [46])) _ (HE.out.below HB8.out) (by rw [mkB_size, List.length_append, List.length_cons, List.length_singleton]; omega)).mono ?_
      rintro e9 w9 ⟨rfl, hb⟩
      have HB9 := Kp.mk (below_step HB8.out hb)
      clear hb
      rw [mkB_toList, dot_behind]
      go_wp2_with (fail)
      rw [cat_a1]
      refine (right_calls (mkB (46 :: 97 :: p)) _ (HE.out.below HB9.out) (by rw [mkB_size, List.length_cons, List.length_cons]; omega)).mono ?_
      rintro e10 w10 ⟨rfl, hb⟩
      have HB10 := Kp.mk (below_step HB9.out hb)
      clear hb
      rw [mkB_toList, dot_ahead]
      go_wp2_with (fail)
      rw [cat_m1]
      refine (right_calls (mkB (97 :: p ++ 46 :: 46 :: (97 :: p))) _ (HE.out.below HB10.out) (by rw [mkB_size]; simp only [List.length_append, List.length_cons]; omega)).mono ?_
      rintro e11 w11 ⟨rfl, hb⟩
      have HB11 := Kp.mk (below_step HB10.out hb)
      clear hb
      rw [mkB_toList, dots_between]
      go_wp2
      go_ret
      exact ⟨rfl, HB11.out⟩
    · by_cases c3 : ((m : Nat) : Int) = 46
      · have hb : badB ((m : Nat) : Int) = true := by simp [badB]; omega
        have hlow : lowB ((m : Nat) : Int) = (m : Int) := by unfold lowB; rw [if_neg (by omega)]
        rw [hlow, hb, if_pos rfl] at hrd
        rw [hb] at hrb
        have b65 : decide (65 ≤ ((m : Nat) : Int)) = false := by simp; omega
        have b90 : decide (((m : Nat) : Int) ≤ 90) = true := by simp; omega
        have b3 : (((m : Nat) : Int) != 46) = false := by simp [c3]
        clear c3
        have HRB := Kp.mk hrb
        have HRD := Kp.mk hrd
        clear hrb hrd hb hlow
        go_wp2_with (fail)
        refine (read_calls (some ⟨w1.heap.size + 1, 0, none⟩) 3 [1, (m : Int), 0] 0 _ _ _ _ HRC.out HBY.out (by simp) (by decide) (HE.out.below HB2.out) (by simp) (by decide) (by decide) HRD.out).mono ?_
        rintro e2 w2 ⟨z1, z2, z3, rfl, hm1, hm2, hm3, hb⟩
        obtain rfl : z1 = .string (mkB []) := List.singleton_inj.1 hm1
        obtain rfl : z2 = .int .i64 0 := List.singleton_inj.1 hm2
        have HF := Kp.mk (erK.K_of_M hm3)
        have HB3 := Kp.mk (below_step HB2.out hb)
        clear hm1 hm2 hm3 hb
        obtain ⟨q, rfl, -⟩ := er_open_fault HF.out
        go_wp2_with (fail)
        refine (awake12_calls _ (HE.out.below HB3.out)).mono ?_
        rintro e4 w4 ⟨rfl, hb⟩
        have HB4 := Kp.mk (below_step HB3.out hb)
        have HF4 := Kp.mk (erK.K_below hb HF.out)
        clear hb
        go_wp2_with (fail)
        refine (right_calls (mkB [UInt8.ofNat m]) _ (HE.out.below HB4.out) (by rw [mkB_size]; simp)).mono ?_
        rintro e5 w5 ⟨rfl, hb⟩
        have HB5 := Kp.mk (below_step HB4.out hb)
        have HF5 := Kp.mk (erK.K_below hb HF4.out)
        clear hb
        rw [mkB_toList, HRB.out]
        go_wp2_with (fail)
        refine (at_calls 12 0 _).mono ?_
        rintro e6 w6 ⟨rfl, hb⟩
        have HB6 := Kp.mk (below_step HB5.out hb)
        have HF6 := Kp.mk (erK.K_below hb HF5.out)
        clear hb
        go_wp2_with (fail)
        refine (same_calls _ _ _ HF6.out (HE.out.below HB6.out) (.inr (by simp [Er.num]))).mono ?_
        rintro e7 w7 ⟨rfl, hb⟩
        have HB7 := Kp.mk (below_step HB6.out hb)
        clear hb
        go_wp2_with (fail)
        rw [cat_97]
        have hfs : (mkB (97 :: p)).size ≤ 61 := by rw [mkB_size, List.length_cons]; omega
        refine (right_calls (mkB (97 :: p)) _ (HE.out.below HB7.out) (by rw [mkB_size, List.length_cons]; omega)).mono ?_
        rintro e8 w8 ⟨rfl, hb⟩
        have HB8 := Kp.mk (below_step HB7.out hb)
        clear hb
        rw [mkB_toList, HF97.out]
        go_wp2_with (fail)
        rw [cat_b1]
        refine (right_calls (mkB (97 :: p ++ [46])) _ (HE.out.below HB8.out) (by rw [mkB_size, List.length_append, List.length_cons, List.length_singleton]; omega)).mono ?_
        rintro e9 w9 ⟨rfl, hb⟩
        have HB9 := Kp.mk (below_step HB8.out hb)
        clear hb
        rw [mkB_toList, dot_behind]
        go_wp2_with (fail)
        rw [cat_a1]
        refine (right_calls (mkB (46 :: 97 :: p)) _ (HE.out.below HB9.out) (by rw [mkB_size, List.length_cons, List.length_cons]; omega)).mono ?_
        rintro e10 w10 ⟨rfl, hb⟩
        have HB10 := Kp.mk (below_step HB9.out hb)
        clear hb
        rw [mkB_toList, dot_ahead]
        go_wp2_with (fail)
        rw [cat_m1]
        refine (right_calls (mkB (97 :: p ++ 46 :: 46 :: (97 :: p))) _ (HE.out.below HB10.out) (by rw [mkB_size]; simp only [List.length_append, List.length_cons]; omega)).mono ?_
        rintro e11 w11 ⟨rfl, hb⟩
        have HB11 := Kp.mk (below_step HB10.out hb)
        clear hb
        rw [mkB_toList, dots_between]
        go_wp2
        go_ret
        exact ⟨rfl, HB11.out⟩
      · by_cases c4 : ((m : Nat) : Int) < 65
        · have hb : badB ((m : Nat) : Int) = false := by simp [badB]; omega
          have hlow : lowB ((m : Nat) : Int) = (m : Int) := by unfold lowB; rw [if_neg (by omega)]
          rw [hlow, hb, if_neg (by decide)] at hrd
          rw [hb] at hrb
          have b65 : decide (65 ≤ ((m : Nat) : Int)) = false := by simp; omega
          have b90 : decide (((m : Nat) : Int) ≤ 90) = true := by simp; omega
          have b46 : (((m : Nat) : Int) != 46) = true := by simp; omega
          have d65 : decide (((m : Nat) : Int) < 65) = true := by simp; omega
          have d90 : decide (90 < ((m : Nat) : Int)) = false := by simp; omega
          have HRB := Kp.mk hrb
          have HRD := Kp.mk hrd
          clear hrb hrd hb hlow
          go_wp2_with (fail)
          refine (read_calls (some ⟨w1.heap.size + 1, 0, none⟩) 3 [1, (m : Int), 0] 0 _ _ _ _ HRC.out HBY.out (by simp) (by decide) (HE.out.below HB2.out) (by simp) (by decide) (by decide) HRD.out).mono ?_
          rintro e2 w2 ⟨z1, z2, z3, rfl, hm1, hm2, hm3, hb⟩
          obtain rfl : z1 = .string (mkB [UInt8.ofNat ((m : Nat) : Int).toNat]) := List.singleton_inj.1 hm1
          obtain rfl : z2 = .int .i64 3 := List.singleton_inj.1 hm2
          obtain rfl := er_open_none (erK.K_of_M hm3)
          have HB3 := Kp.mk (below_step HB2.out hb)
          clear hm1 hm2 hm3 hb
          rw [Int.toNat_natCast]
          go_wp2_with (fail)
          refine (awake12_calls _ (HE.out.below HB3.out)).mono ?_
          rintro e4 w4 ⟨rfl, hb⟩
          have HB4 := Kp.mk (below_step HB3.out hb)
          clear hb
          go_wp2_with (fail)
          refine (right_calls (mkB [UInt8.ofNat m]) _ (HE.out.below HB4.out) (by rw [mkB_size]; simp)).mono ?_
          rintro e5 w5 ⟨rfl, hb⟩
          have HB5 := Kp.mk (below_step HB4.out hb)
          clear hb
          rw [mkB_toList, HRB.out]
          go_wp2_with (fail)
          rw [cat_97]
          have hfs : (mkB (97 :: p)).size ≤ 61 := by rw [mkB_size, List.length_cons]; omega
          refine (right_calls (mkB (97 :: p)) _ (HE.out.below HB5.out) (by rw [mkB_size, List.length_cons]; omega)).mono ?_
          rintro e8 w8 ⟨rfl, hb⟩
          have HB8 := Kp.mk (below_step HB5.out hb)
          clear hb
          rw [mkB_toList, HF97.out]
          go_wp2_with (fail)
          rw [cat_b1]
          refine (right_calls (mkB (97 :: p ++ [46])) _ (HE.out.below HB8.out) (by rw [mkB_size, List.length_append, List.length_cons, List.length_singleton]; omega)).mono ?_
          rintro e9 w9 ⟨rfl, hb⟩
          have HB9 := Kp.mk (below_step HB8.out hb)
          clear hb
          rw [mkB_toList, dot_behind]
          go_wp2_with (fail)
          rw [cat_a1]
          refine (right_calls (mkB (46 :: 97 :: p)) _ (HE.out.below HB9.out) (by rw [mkB_size, List.length_cons, List.length_cons]; omega)).mono ?_
          rintro e10 w10 ⟨rfl, hb⟩
          have HB10 := Kp.mk (below_step HB9.out hb)
          clear hb
          rw [mkB_toList, dot_ahead]
          go_wp2_with (fail)
          rw [cat_m1]
          refine (right_calls (mkB (97 :: p ++ 46 :: 46 :: (97 :: p))) _ (HE.out.below HB10.out) (by rw [mkB_size]; simp only [List.length_append, List.length_cons]; omega)).mono ?_
          rintro e11 w11 ⟨rfl, hb⟩
          have HB11 := Kp.mk (below_step HB10.out hb)
          clear hb
          rw [mkB_toList, dots_between]
          go_wp2
          go_ret
          exact ⟨rfl, HB11.out⟩
        · by_cases c5 : 90 < ((m : Nat) : Int)
          · have hb : badB ((m : Nat) : Int) = false := by simp [badB]; omega
            have hlow : lowB ((m : Nat) : Int) = (m : Int) := by unfold lowB; rw [if_neg (by omega)]
            rw [hlow, hb, if_neg (by decide)] at hrd
            rw [hb] at hrb
            have b65 : decide (65 ≤ ((m : Nat) : Int)) = true := by simp; omega
            have b90 : decide (((m : Nat) : Int) ≤ 90) = false := by simp; omega
            have b46 : (((m : Nat) : Int) != 46) = true := by simp; omega
            have d65 : decide (((m : Nat) : Int) < 65) = false := by simp; omega
            have d90 : decide (90 < ((m : Nat) : Int)) = true := by simp; omega
            have HRB := Kp.mk hrb
            have HRD := Kp.mk hrd
            clear hrb hrd hb hlow
            go_wp2_with (fail)
            refine (read_calls (some ⟨w1.heap.size + 1, 0, none⟩) 3 [1, (m : Int), 0] 0 _ _ _ _ HRC.out HBY.out (by simp) (by decide) (HE.out.below HB2.out) (by simp) (by decide) (by decide) HRD.out).mono ?_
            rintro e2 w2 ⟨z1, z2, z3, rfl, hm1, hm2, hm3, hb⟩
            obtain rfl : z1 = .string (mkB [UInt8.ofNat ((m : Nat) : Int).toNat]) := List.singleton_inj.1 hm1
            obtain rfl : z2 = .int .i64 3 := List.singleton_inj.1 hm2
            obtain rfl := er_open_none (erK.K_of_M hm3)
            have HB3 := Kp.mk (below_step HB2.out hb)
            clear hm1 hm2 hm3 hb
            rw [Int.toNat_natCast]
            go_wp2_with (fail)
            refine (awake12_calls _ (HE.out.below HB3.out)).mono ?_
            rintro e4 w4 ⟨rfl, hb⟩
            have HB4 := Kp.mk (below_step HB3.out hb)
            clear hb
            go_wp2_with (fail)
            refine (right_calls (mkB [UInt8.ofNat m]) _ (HE.out.below HB4.out) (by rw [mkB_size]; simp)).mono ?_
            rintro e5 w5 ⟨rfl, hb⟩
            have HB5 := Kp.mk (below_step HB4.out hb)
            clear hb
            rw [mkB_toList, HRB.out]
            go_wp2_with (fail)
            rw [cat_97]
            have hfs : (mkB (97 :: p)).size ≤ 61 := by rw [mkB_size, List.length_cons]; omega
            refine (right_calls (mkB (97 :: p)) _ (HE.out.below HB5.out) (by rw [mkB_size, List.length_cons]; omega)).mono ?_
            rintro e8 w8 ⟨rfl, hb⟩
            have HB8 := Kp.mk (below_step HB5.out hb)
            clear hb
            rw [mkB_toList, HF97.out]
            go_wp2_with (fail)
            rw [cat_b1]
            refine (right_calls (mkB (97 :: p ++ [46])) _ (HE.out.below HB8.out) (by rw [mkB_size, List.length_append, List.length_cons, List.length_singleton]; omega)).mono ?_
            rintro e9 w9 ⟨rfl, hb⟩
            have HB9 := Kp.mk (below_step HB8.out hb)
            clear hb
            rw [mkB_toList, dot_behind]
            go_wp2_with (fail)
            rw [cat_a1]
            refine (right_calls (mkB (46 :: 97 :: p)) _ (HE.out.below HB9.out) (by rw [mkB_size, List.length_cons, List.length_cons]; omega)).mono ?_
            rintro e10 w10 ⟨rfl, hb⟩
            have HB10 := Kp.mk (below_step HB9.out hb)
            clear hb
            rw [mkB_toList, dot_ahead]
            go_wp2_with (fail)
            rw [cat_m1]
            refine (right_calls (mkB (97 :: p ++ 46 :: 46 :: (97 :: p))) _ (HE.out.below HB10.out) (by rw [mkB_size]; simp only [List.length_append, List.length_cons]; omega)).mono ?_
            rintro e11 w11 ⟨rfl, hb⟩
            have HB11 := Kp.mk (below_step HB10.out hb)
            clear hb
            rw [mkB_toList, dots_between]
            go_wp2
            go_ret
            exact ⟨rfl, HB11.out⟩
          · have hb : badB ((m : Nat) : Int) = true := by simp [badB]; omega
            have hlow : lowB ((m : Nat) : Int) = (m : Int) + 32 := by unfold lowB; rw [if_pos (by omega)]
            have hb2 : badB ((m : Int) + 32) = false := by simp [badB]; omega
            rw [hlow, hb2, if_neg (by decide)] at hrd
            rw [hb] at hrb
            have b65 : decide (65 ≤ ((m : Nat) : Int)) = true := by simp; omega
            have b90 : decide (((m : Nat) : Int) ≤ 90) = true := by simp; omega
            have b46 : (((m : Nat) : Int) != 46) = true := by simp; omega
            have d65 : decide (((m : Nat) : Int) < 65) = false := by simp; omega
            have d90 : decide (90 < ((m : Nat) : Int)) = false := by simp; omega
            have HRB := Kp.mk hrb
            have HRD := Kp.mk hrd
            clear hrb hrd hb hlow hb2
            go_wp2_with (fail)
            refine (read_calls (some ⟨w1.heap.size + 1, 0, none⟩) 3 [1, (m : Int), 0] 0 _ _ _ _ HRC.out HBY.out (by simp) (by decide) (HE.out.below HB2.out) (by simp) (by decide) (by decide) HRD.out).mono ?_
            rintro e2 w2 ⟨z1, z2, z3, rfl, hm1, hm2, hm3, hb⟩
            obtain rfl : z1 = .string (mkB [UInt8.ofNat ((m : Int) + 32).toNat]) := List.singleton_inj.1 hm1
            obtain rfl : z2 = .int .i64 3 := List.singleton_inj.1 hm2
            obtain rfl := er_open_none (erK.K_of_M hm3)
            have HB3 := Kp.mk (below_step HB2.out hb)
            clear hm1 hm2 hm3 hb
            have kb4 := str_lit w2 ((m : Int) + 32)
            have HB3' := HB3
            clear HB3
            have HB3 := Kp.mk (HB3'.out.alloc HB3'.out.size (.cells #[.int .u8 ((m : Int) + 32)] 5))
            clear HB3'
            go_wp2_with (fail)
            refine (awake12_calls _ (HE.out.below HB3.out)).mono ?_
            rintro e4 w4 ⟨rfl, hb⟩
            have HB4 := Kp.mk (below_step HB3.out hb)
            clear hb
            go_wp2_with (fail)
            refine (right_calls (mkB [UInt8.ofNat m]) _ (HE.out.below HB4.out) (by rw [mkB_size]; simp)).mono ?_
            rintro e5 w5 ⟨rfl, hb⟩
            have HB5 := Kp.mk (below_step HB4.out hb)
            clear hb
            rw [mkB_toList, HRB.out]
            go_wp2_with (fail)
            rw [cat_97]
            have hfs : (mkB (97 :: p)).size ≤ 61 := by rw [mkB_size, List.length_cons]; omega
            refine (right_calls (mkB (97 :: p)) _ (HE.out.below HB5.out) (by rw [mkB_size, List.length_cons]; omega)).mono ?_
            rintro e8 w8 ⟨rfl, hb⟩
            have HB8 := Kp.mk (below_step HB5.out hb)
            clear hb
            rw [mkB_toList, HF97.out]
            go_wp2_with (fail)
            rw [cat_b1]
            refine (right_calls (mkB (97 :: p ++ [46])) _ (HE.out.below HB8.out) (by rw [mkB_size, List.length_append, List.length_cons, List.length_singleton]; omega)).mono ?_
            rintro e9 w9 ⟨rfl, hb⟩
            have HB9 := Kp.mk (below_step HB8.out hb)
            clear hb
            rw [mkB_toList, dot_behind]
            go_wp2_with (fail)
            rw [cat_a1]
            refine (right_calls (mkB (46 :: 97 :: p)) _ (HE.out.below HB9.out) (by rw [mkB_size, List.length_cons, List.length_cons]; omega)).mono ?_
            rintro e10 w10 ⟨rfl, hb⟩
            have HB10 := Kp.mk (below_step HB9.out hb)
            clear hb
            rw [mkB_toList, dot_ahead]
            go_wp2_with (fail)
            rw [cat_m1]
            refine (right_calls (mkB (97 :: p ++ 46 :: 46 :: (97 :: p))) _ (HE.out.below HB10.out) (by rw [mkB_size]; simp only [List.length_append, List.length_cons]; omega)).mono ?_
            rintro e11 w11 ⟨rfl, hb⟩
            have HB11 := Kp.mk (below_step HB10.out hb)
            clear hb
            rw [mkB_toList, dots_between]
            go_wp2
            go_ret
            exact ⟨rfl, HB11.out⟩
end Go.Proofs.YtimaliamidgflaaDoor
