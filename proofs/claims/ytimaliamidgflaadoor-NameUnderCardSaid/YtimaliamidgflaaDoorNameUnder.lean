/-
  The law NameUnder: each name is under each zone that it ends with, label by label, and under no longer one: the walk.
-/
import Derived.Test.YtimaliamidgflaaDoorPlayN
import Derived.Test.YtimaliamidgflaaDoorNuA
import Derived.Test.YtimaliamidgflaaDoorAwake12
namespace Go.Proofs.YtimaliamidgflaaDoor
open Go.RowKit Go.Proofs.YtimaliamidgflaaDoorW.PrintWords
set_option maxRecDepth 100000
set_option maxHeartbeats 1000000

theorem labels_count (p : L) : (labelsOf p).length ≤ p.length + 1 := by
  unfold labelsOf
  split
  · simp
  · have : ∀ l : L, (splitD l).length ≤ l.length + 1 := by
      intro l
      induction l with
      | nil => simp [splitD]
      | cons c l ih =>
        unfold splitD
        split
        · simp; omega
        · split
          · simp
          · rename_i h; rw [h] at ih; simp at ih ⊢; omega
    exact this p
theorem labels_pos (p : L) (h : p ≠ []) : 0 < (labelsOf p).length := by
  unfold labelsOf
  rw [if_neg h]
  exact List.length_pos_iff.2 (splitD_ne p)
theorem mem_size (ls : List L) (x : L) (h : x ∈ ls) : x.length + 2 ≤ sizeOf_ ls := by
  induction ls with
  | nil => cases h
  | cons y ls ih =>
    rcases List.mem_cons.1 h with rfl | h
    · simp [sizeOf_]; omega
    · have := ih h; simp [sizeOf_] at this ⊢; omega
theorem label_le (p : L) (k : Nat) : ((labelsOf p).getD k []).length ≤ p.length := by
  by_cases hk : k < (labelsOf p).length
  · have hm : (labelsOf p).getD k [] ∈ labelsOf p := getD_mem _ _ _ hk
    have h1 := mem_size _ _ hm
    have h2 : sizeOf_ (labelsOf p) ≤ p.length + 2 := by
      unfold labelsOf
      split
      · simp [sizeOf_]
      · rw [splitD_sz]; exact Nat.le_refl _
    omega
  · rw [List.getD_eq_getElem?_getD, List.getElem?_eq_none (by omega)]; simp
theorem cat_mk (x y : L) : mkB x ++ mkB y = mkB (x ++ y) := by
  apply ByteArray.ext
  simp [mkB]
theorem cat_dot (x y : L) : mkB x ++ (⟨#[46]⟩ : ByteArray) ++ mkB y = mkB (x ++ 46 :: y) := by
  apply ByteArray.ext
  simp [mkB]
theorem cat_x (y : L) : (⟨#[120]⟩ : ByteArray) ++ mkB y = mkB (120 :: y) := by
  apply ByteArray.ext
  simp [mkB]
theorem getD_mk (ls : List L) (k : Nat) : (ls.map mkB).getD k ByteArray.empty = mkB (ls.getD k []) := by
  rw [List.getD_eq_getElem?_getD, List.getD_eq_getElem?_getD, List.getElem?_map]
  cases ls[k]? <;> rfl
theorem zone_step (ls : List L) (K k : Nat) (hK : K ≤ k) (hk : k < ls.length) : zoneF [] ((ls.take (k + 1)).drop K) = if zoneF [] ((ls.take k).drop K) = [] then ls.getD k [] else zoneF [] ((ls.take k).drop K) ++ 46 :: ls.getD k [] := by
  rw [take_snoc ls [] k hk, List.drop_append_of_le_length (by rw [List.length_take]; omega), zoneF_snoc]
theorem nameUnder_walk (s0 : ByteArray) (h0 : s0.size ≤ 9223372036854775807) (a1 : Int) (_ : -9223372036854775808 ≤ a1) (_ : a1 ≤ 9223372036854775807) (s2 : ByteArray) (h2 : s2.size ≤ 9223372036854775807) (w : World) (hE : Env w) :
    Calls Tryd.prog 8 #[.string s0, .int .i64 a1, .string s2] w fun e w' => e = .returned (.bool true) ∧ Below w.heap.size w w' := by
  have HE := Kp.mk hE
  clear hE
  obtain ⟨p, hp⟩ : ∃ p, playN s0.data.toList = p := ⟨_, rfl⟩
  obtain ⟨q, hq⟩ : ∃ q, playN s2.data.toList = q := ⟨_, rfl⟩
  have hpl : (mkB p).size ≤ 60 := by rw [← hp]; exact (playN_right _).2
  have hql : (mkB q).size ≤ 60 := by rw [← hq]; exact (playN_right _).2
  have HP := Kp.mk (playname_calls s0 w h0)
  rw [hp] at HP
  have HQ := Kp.mk (fun w => playname_calls s2 w h2)
  rw [hq] at HQ
  clear hp hq
  obtain ⟨ls, hls⟩ : ∃ ls, labelsOf p = ls := ⟨_, rfl⟩
  have hlc := labels_count p
  rw [hls] at hlc
  have hpp : p.length ≤ 60 := hpl
  have HLS := Kp.mk hls
  clear hls
  go_enter Tryd.func8, Tryd.ntmps8
  go_wp2_with (fail)
  refine HP.out.mono ?_
  rintro e1 w1 ⟨rfl, hb⟩
  have HB1 := Kp.mk hb
  clear hb
  go_wp2_with (fail)
  refine (HQ.out _).mono ?_
  rintro e2 w2 ⟨rfl, hb⟩
  have HB2 := Kp.mk (below_step HB1.out hb)
  clear hb
  go_wp2_with (fail)
  refine (labels_calls (mkB p) _ (HE.out.below HB2.out) (by omega)).mono ?_
  rintro e3 w3 ⟨v, rfl, hm, hb⟩
  have HB3 := Kp.mk (below_step HB2.out hb)
  have hm2 := strsK.K_of_M hm
  rw [mkB_toList, HLS.out] at hm2
  obtain ⟨A, c, rfl, hc, hC⟩ := slice_open hm2
  have hll : (ls.map mkB).length = ls.length := List.length_map ..
  rw [hll] at hC hc ⊢
  have HC := Kp.mk hC
  clear hb hm hm2 hC
  go_wp2_with (fail)
  refine (awake12_calls _ (HE.out.below HB3.out)).mono ?_
  rintro e4 w4 ⟨rfl, hb⟩
  have HB4 := Kp.mk (below_step HB3.out hb)
  have HC4 := Kp.mk (Kd.C_below HC.out hb)
  clear hb HC
  by_cases hp0 : p = []
  · subst hp0
    have hl0 : ls = [] := HLS.out.symm
    subst hl0
    have b0 : (mkB []).toList.isEmpty = true := by rw [ByteArray.toList_eq]; rfl
    simp only [List.length_nil, List.map_nil] at hll hc HC4 ⊢
    obtain ⟨K, hK, hKe⟩ := umod a1 1 (by decide) (by decide)
    have hK0 : K = 0 := by omega
    subst hK0
    go_wp2_with (fail)
    go_loopw [8, 9] (fun z i wr => i = .int .i64 0 ∧ z = .string (mkB []) ∧ Kp (w4 = wr)) (fun _ _ _ => 0)
    case atStart => exact ⟨rfl, rfl, ⟨rfl⟩⟩
    case round =>
      obtain ⟨rfl, rfl, HWR⟩ := hrel
      obtain rfl := HWR.out
      clear hKe HWR
      go_wp2_with (fail)
      refine (under_calls (mkB []) (mkB []) _ (by decide) (by decide)).mono ?_
      rintro e5 w5 ⟨rfl, rfl⟩
      rw [show underL (mkB []).data.toList (mkB []).data.toList = true by rfl]
      go_wp2_with (fail)
      refine (under_calls (mkB []) ⟨#[]⟩ _ (by decide) (by decide)).mono ?_
      rintro e5 w5 ⟨rfl, rfl⟩
      rw [show underL (mkB []).data.toList (⟨#[]⟩ : ByteArray).data.toList = true by rfl]
      by_cases hq0 : q = []
      · subst hq0
        go_wp2_with (fail)
        rw [cat_x]
        refine (under_calls (mkB []) (mkB (120 :: [])) _ (by decide) (by decide)).mono ?_
        rintro e6 w6 ⟨rfl, rfl⟩
        rw [mkB_toList, mkB_toList, under_longer]
        go_wp2
        go_ret
        exact ⟨rfl, HB4.out⟩
      · have bq : (mkB q).toList.isEmpty = false := by rw [ByteArray.toList_eq]; simpa [mkB] using hq0
        go_wp2_with (fail)
        rw [cat_x]
        refine (under_calls (mkB []) (mkB (120 :: [])) _ (by decide) (by decide)).mono ?_
        rintro e6 w6 ⟨rfl, rfl⟩
        rw [mkB_toList, mkB_toList, under_longer]
        go_wp2
        go_ret
        exact ⟨rfl, HB4.out⟩
  · have b0 : (mkB p).toList.isEmpty = false := by rw [ByteArray.toList_eq]; simpa [mkB] using hp0
    obtain ⟨K, hK, hKe⟩ := umod a1 ((ls.length : Int) + 1) (by omega) (by omega)
    have hlp : 0 < ls.length := by have := labels_pos p hp0; rw [HLS.out] at this; exact this
    have blp : decide (0 < (ls.length : Int)) = true := by simp; omega
    go_wp2_with (fail)
    go_loopw [8, 9] (fun z i wr => ∃ (k : Nat) (zn : L), K ≤ k ∧ k ≤ ls.length ∧ i = .int .i64 k ∧ z = .string (mkB zn) ∧ Kp (zoneF [] ((ls.take k).drop K) = zn) ∧ Kp (zn.length ≤ 61 * k) ∧ Kp (w4 = wr)) (fun _ i _ => ls.length - (intOf i).toNat)
    case atStart => exact ⟨K, [], Nat.le_refl _, by omega, by rw [hKe], rfl, ⟨by rw [List.drop_eq_nil_of_le (by rw [List.length_take]; omega)]; rfl⟩, ⟨by simp⟩, ⟨rfl⟩⟩
    case round =>
      obtain ⟨k, zn, hKk, hk, rfl, rfl, HZ, HZL, HWR⟩ := hrel
      obtain rfl := HWR.out
      clear hKe HWR
      by_cases hlt : k < ls.length
      · obtain ⟨ad, rfl, hcell⟩ := at_natS HC4.out k hlt
        rw [getD_mk] at hcell
        have HS := Kp.mk (zone_step ls K k hKk hlt)
        have hxl := label_le p k
        rw [HLS.out] at hxl
        obtain ⟨x, hx⟩ : ∃ x, ls.getD k [] = x := ⟨_, rfl⟩
        have HS2 := HS.out
        rw [hx, HZ.out] at HS2
        rw [hx] at hcell hxl
        have hzl := HZL.out
        have hxs : (mkB x).size ≤ 60 := by rw [mkB_size]; omega
        have hzs : (mkB zn).size ≤ 61 * k := by rw [mkB_size]; omega
        clear hx HS HZ HZL
        by_cases hz0 : zn = []
        · subst hz0
          rw [if_pos rfl] at HS2
          have HS3 := Kp.mk HS2
          have bz : (mkB []).toList.isEmpty = true := by rw [ByteArray.toList_eq]; rfl
          clear HS2
          go_wp2
          exact ⟨⟨k + 1, x, by omega, by omega, by go_num, by rw [cat_mk]; rfl, HS3, ⟨by omega⟩, ⟨trivial⟩⟩, by simp [intOf]; omega⟩
        · have bz : (mkB zn).toList.isEmpty = false := by rw [ByteArray.toList_eq]; simpa [mkB] using hz0
          rw [if_neg hz0] at HS2
          have HS3 := Kp.mk HS2
          clear HS2 hz0
          go_wp2
          exact ⟨⟨k + 1, zn ++ 46 :: x, by omega, by omega, by go_num, by rw [cat_dot], HS3, ⟨by rw [List.length_append, List.length_cons]; omega⟩, ⟨trivial⟩⟩, by simp [intOf]; omega⟩
      · obtain rfl : k = ls.length := by omega
        rw [List.take_length] at HZ
        have hu := under_labels p K
        rw [HLS.out, HZ.out] at hu
        have hzs : (mkB zn).size ≤ 5000 := by have := HZL.out; rw [mkB_size]; omega
        have HU := Kp.mk hu
        clear hu HZ HZL hlt
        go_wp2_with (fail)
        refine (under_calls (mkB p) (mkB zn) _ (by omega) (by omega)).mono ?_
        rintro e5 w5 ⟨rfl, rfl⟩
        rw [mkB_toList, mkB_toList, HU.out]
        go_wp2_with (fail)
        refine (under_calls (mkB p) ⟨#[]⟩ _ (by omega) (by decide)).mono ?_
        rintro e5 w5 ⟨rfl, rfl⟩
        rw [show underL (mkB p).data.toList (⟨#[]⟩ : ByteArray).data.toList = true by rfl]
        by_cases hq0 : q = []
        · subst hq0
          have bq : (mkB []).toList.isEmpty = true := by rw [ByteArray.toList_eq]; rfl
          go_wp2_with (fail)
          rw [cat_x]
          refine (under_calls (mkB p) (mkB (120 :: p)) _ (by omega) (by rw [mkB_size, List.length_cons]; omega)).mono ?_
          rintro e6 w6 ⟨rfl, rfl⟩
          rw [mkB_toList, mkB_toList, under_longer]
          go_wp2_with (fail)
          refine (under_calls (mkB (120 :: p)) (mkB p) _ (by rw [mkB_size, List.length_cons]; omega) (by omega)).mono ?_
          rintro e7 w7 ⟨rfl, rfl⟩
          rw [mkB_toList, mkB_toList, under_shorter p hp0]
          go_wp2
          go_ret
          exact ⟨rfl, HB4.out⟩
        · have bq : (mkB q).toList.isEmpty = false := by rw [ByteArray.toList_eq]; simpa [mkB] using hq0
          go_wp2_with (fail)
          rw [cat_dot]
          refine (under_calls (mkB (q ++ 46 :: p)) (mkB p) _ (by rw [mkB_size, List.length_append, List.length_cons]; rw [mkB_size] at hql; omega) (by omega)).mono ?_
          rintro e5 w5 ⟨rfl, rfl⟩
          rw [mkB_toList, mkB_toList, under_more]
          go_wp2_with (fail)
          rw [cat_x]
          refine (under_calls (mkB p) (mkB (120 :: p)) _ (by omega) (by rw [mkB_size, List.length_cons]; omega)).mono ?_
          rintro e6 w6 ⟨rfl, rfl⟩
          rw [mkB_toList, mkB_toList, under_longer]
          go_wp2_with (fail)
          refine (under_calls (mkB (120 :: p)) (mkB p) _ (by rw [mkB_size, List.length_cons]; omega) (by omega)).mono ?_
          rintro e7 w7 ⟨rfl, rfl⟩
          rw [mkB_toList, mkB_toList, under_shorter p hp0]
          go_wp2
          go_ret
          exact ⟨rfl, HB4.out⟩
end Go.Proofs.YtimaliamidgflaaDoor
