/-
  The law LabelsLongest: a name itself comes first; of the zones it stands under the longest; the root last: the walk.
-/
import Derived.Test.YtimaliamidgflaaDoorGl
import Derived.Test.YtimaliamidgflaaDoorGm
import Derived.Test.YtimaliamidgflaaDoorRefL
import Derived.StillTailTactics
import Derived.RegionTactic
namespace Go.Proofs.YtimaliamidgflaaDoor
open Go.RowKit Go.Proofs.YtimaliamidgflaaDoorW.PrintWords Go.Proofs.YtimaliamidgflaaDoor.P
set_option linter.unusedVariables false
set_option linter.unusedSimpArgs false
set_option maxRecDepth 100000
set_option maxHeartbeats 1000000

theorem catP (x y : L) : mkB x ++ mkB y = mkB (x ++ y) := by
  apply ByteArray.ext
  simp [mkB]
theorem catD (x y : L) : mkB x ++ (⟨#[46]⟩ : ByteArray) ++ mkB y = mkB (x ++ 46 :: y) := by
  apply ByteArray.ext
  simp [mkB]
theorem getM (ls : List L) (k : Nat) : (ls.map mkB).getD k ByteArray.empty = mkB (ls.getD k []) := by
  rw [List.getD_eq_getElem?_getD, List.getD_eq_getElem?_getD, List.getElem?_map]
  cases ls[k]? <;> rfl
theorem labelsLongest_walk (w : World) (s0 : ByteArray) (h0 : s0.size ≤ 9223372036854775807) (A1 : Option Addr) (n1 c1 : Nat) (ts : List Int) (hC1 : (Kd.int .i64).C w A1 n1 ts) (hc1 : n1 ≤ c1) (hm1 : c1 ≤ 9223372036854775807) (hE : EnvM w) :
    Calls Tryd.prog 5 #[.string s0, .slice A1 n1 c1] w fun e w' => e = .returned (.bool true) ∧ Below w.heap.size w w' := by
  have HE := Kp.mk hE
  have HS := Kp.mk (StM.start hE)
  clear hE
  obtain ⟨p, hp⟩ : ∃ p, playN s0.data.toList = p := ⟨_, rfl⟩
  have hpr := playN_right s0.data.toList
  rw [hp] at hpr
  obtain ⟨hpr, hpl⟩ := hpr
  have hps : (mkB p).size ≤ 60 := hpl
  have HP := Kp.mk (playname_calls s0 w h0)
  rw [hp] at HP
  have hfull := zone_full p (right_ne p hpr)
  have hpath := zone_path p (right_ne p hpr)
  have hsz : sizeOf_ (labelsOf p) ≤ 62 := by
    have h1 := labels_sz p
    split at h1 <;> omega
  have hln : (labelsOf p).length ≤ 30 := by
    have h1 := sz_two _ (right_ne p hpr)
    omega
  have hpos : p ≠ [] → 0 < (labelsOf p).length := fun h => by
    rw [labelsOf, if_neg h]
    exact List.length_pos_iff.2 (splitD_ne p)
  have hz0 : p = [] → (labelsOf p).length = 0 := fun h => by subst h; rfl
  have HLB := Kp.mk (fun w => stockaderef12_Labels.calls 1000 (mkB p) _ w (ref_labels 1000 (mkB p) (by omega) (by omega)))
  rw [mkB_toList] at HLB
  have hpp : pathOf p = (labelsOf p).reverse := rfl
  obtain ⟨ls, hls⟩ : ∃ ls, labelsOf p = ls := ⟨_, rfl⟩
  rw [hls] at HLB hfull hpath hsz hln hpos hz0 hpp
  obtain ⟨n, hn⟩ : ∃ n, ls.length + 1 = n := ⟨_, rfl⟩
  have HN := Kp.mk hn
  have HFULL := Kp.mk hfull
  have HPATH := Kp.mk hpath
  have HPP := Kp.mk hpp
  have HSZ := Kp.mk hsz
  have HPOS := Kp.mk hpos
  have HZ0 := Kp.mk hz0
  have hn31 : n ≤ 31 := by omega
  have hn0 : 0 < n := by omega
  have hl30 : ls.length ≤ 30 := hln
  obtain rfl := (C_len hC1).1
  have HC1 := Kp.mk hC1
  clear hp hpr hls hn hfull hpath hpp hsz hpos hz0 hln hC1
  go_enter Tryd.func5, Tryd.ntmps5
  go_wp2_with (fail)
  refine bM_ HP.out HS ?_
  intro w1 HB1 HS1
  go_wp2_with (fail)
  refine (HLB.out _).mono ?_
  rintro e2 w2 ⟨v2, rfl, hm2, hb2⟩
  obtain ⟨A2, c2, rfl⟩ := Kd.R_slice hm2
  have HL2 := Kp.mk (R_C hm2).1
  have HS2 := Kp.mk (HS1.out.step hb2)
  rw [List.length_map] at *
  clear hm2 hb2
  go_wp2_with (fail)
  refine newT_ HS2 ?_
  intro tb w3 HB3 HS3 HT3
  go_wp2_with (fail)
  refine bM_ (awake20_calls _ HS3.out.env) HS3 ?_
  intro w4 HB4 HS4
  have HT4 := Kp.mk (HT3.out.step HB4.out)
  have HL4 := Kp.mk (Kd.C_below (Kd.C_below HL2.out HB3.out) HB4.out)
  clear HL2 HT3 HB3 HB4
  have HR0 : Kp (Kd.string.R 9 (w4.alloc (.cells #[.string (mkB p)] 9)) w4.heap.size (fun _ => True) (.slice (some ⟨w4.heap.size, 0, none⟩) 1 1) (zonesL ls 1)) := ⟨by
    obtain ⟨v, hv, hR⟩ := strs_new w4 [mkB p] (by show 1 ≤ 9223372036854775807; decide)
    obtain rfl := List.singleton_inj.1 hv
    have e : zonesL ls 1 = [mkB p] := by rw [zones_snoc, List.drop_zero, HFULL.out]; rfl
    rw [e]
    exact hR⟩
  have HW0 := Kp.mk ((Below.refl w4.heap.size w4).alloc (Nat.le_refl _) (.cells #[.string (mkB p)] 9))
  go_wp2_with (fail)
  go_loopw [7, 8] (fun z i wr => ∃ (k : Nat) (A : Option Addr) (c : Nat), 1 ≤ k ∧ (k ≤ ls.length ∨ k = 1) ∧ i = .int .i64 (k : Int) ∧ z = .slice A k c ∧ Kp (Kd.string.R 9 wr w4.heap.size (fun _ => True) (.slice A k c) (zonesL ls k)) ∧ Kp (Below w4.heap.size w4 wr)) (fun _ i _ => ls.length - (intOf i).toNat)
  case atStart => exact ⟨1, _, _, Nat.le_refl _, .inr rfl, rfl, rfl, HR0, HW0⟩
  case round =>
    clear HR0 HW0
    obtain ⟨k, Az, cz, hk1, hk, rfl, rfl, HR, HW⟩ := hrel
    by_cases hlt : k < ls.length
    · go_wp2_with (fail)
      go_loopw [9, 10] (fun z i wx => ∃ (j : Nat) (zn : L), k ≤ j ∧ j ≤ ls.length ∧ i = .int .i64 (j : Int) ∧ z = .string (mkB zn) ∧ Kp (zoneF [] ((ls.take j).drop k) = zn) ∧ Kp (wr = wx)) (fun _ i _ => ls.length - (intOf i).toNat)
      case atStart => exact ⟨k, [], Nat.le_refl _, by omega, rfl, rfl, ⟨by rw [List.drop_eq_nil_of_le (by rw [List.length_take]; omega)]; rfl⟩, ⟨rfl⟩⟩
      case round =>
        obtain ⟨j, zn, hkj, hj, rfl, rfl, HZ, HWX⟩ := hrel
        obtain rfl := HWX.out
        clear HWX
        have hzl := sub_zone ls k j 62 HSZ.out
        rw [HZ.out] at hzl
        have hzs : (mkB zn).size ≤ 62 := hzl
        by_cases hjl : j < ls.length
        · obtain ⟨ad, rfl, hcell⟩ := at_natS (Kd.C_below HL4.out HW.out) j hjl
          rw [getM] at hcell
          have HST := Kp.mk (zone_next ls k j hkj hjl)
          have hxl := sz_sub (List.singleton_sublist.2 (getD_mem ls [] j hjl))
          obtain ⟨x, hx⟩ : ∃ x, ls.getD j [] = x := ⟨_, rfl⟩
          rw [hx] at hcell hxl
          have hxs : (mkB x).size ≤ 62 := by
            have := HSZ.out
            rw [sz_cons] at hxl
            rw [mkB_size]
            omega
          have HST2 := HST.out
          rw [hx, HZ.out] at HST2
          clear hx HST HZ hxl hzl
          by_cases hz : zn = []
          · subst hz
            rw [if_pos rfl] at HST2
            have HST3 := Kp.mk HST2
            have bz : (mkB []).toList.isEmpty = true := by rw [ByteArray.toList_eq]; rfl
            clear HST2
            go_wp2
            exact ⟨⟨j + 1, x, by omega, by omega, by go_num, by rw [catP]; rfl, HST3, ⟨trivial⟩⟩, by simp [intOf]; omega⟩
          · have bz : (mkB zn).toList.isEmpty = false := by rw [ByteArray.toList_eq]; simpa [mkB] using hz
            rw [if_neg hz] at HST2
            have HST3 := Kp.mk HST2
            clear HST2 hz
            go_wp2
            exact ⟨⟨j + 1, zn ++ 46 :: x, by omega, by omega, by go_num, by rw [catD], HST3, ⟨trivial⟩⟩, by simp [intOf]; omega⟩
        · obtain rfl : j = ls.length := by omega
          rw [List.take_length] at HZ
          have hsz4 : w4.heap.size ≤ wr.heap.size := HW.out.size
          go_wp2_with (at_builtin; with_reducible refine gate_builtin (b := .append) (xs := #[.tmp 65, .tmp 67]) rfl ?_; go_must (refine app_text (w0 := w4) (base := w4.heap.size) (s := .tmp 65) (x := .tmp 67) (v := .slice Az k cz) rfl rfl (zonesL ls k) (mkB zn) rfl rfl HR.out HW.out hsz4 (by rw [zones_len]; omega) ?_))
          intro v5 w5 HR5 HB5 hs5
          rw [← HZ.out, ← zones_snoc] at HR5
          obtain ⟨A5, c5, hv5⟩ := Kd.R_slice HR5.out
          rw [zones_len] at hv5
          subst hv5
          go_wp2
          exact ⟨⟨k + 1, A5, c5, by omega, by omega, by go_num, by go_num, HR5, HB5⟩, by simp [intOf]; omega⟩
    · have hk1 : (p = [] → k = n) ∧ (p ≠ [] → k + 1 = n) := ⟨fun e => by have := HZ0.out e; have := HN.out; omega, fun e => by have := HPOS.out e; have := HN.out; omega⟩
      have HK1 := Kp.mk hk1
      have hsz4 : w4.heap.size ≤ wr.heap.size := HW.out.size
      clear hk1 hk
      obtain ⟨b, hb⟩ : ∃ b, (mkB p).toList.isEmpty = b := ⟨_, rfl⟩
      have HBP : Kp ((b = true → p = []) ∧ (b = false → p ≠ [])) := ⟨by
        rw [← hb, ByteArray.toList_eq]
        constructor
        · intro h; simpa [mkB] using h
        · intro h e; subst e; simp [mkB] at h⟩
      go_upto_if 70 with (fail)
      clear hlt
      go_cut [7] (fun z wx => ∃ A c, z = .slice A n c ∧ Kp (Kd.string.R 9 wx w4.heap.size (fun _ => True) (.slice A n c) (zonesL ls n)) ∧ Kp (Below w4.heap.size w4 wx))
      case first =>
        clear hb
        cases b
        · have hkn := HK1.out.2 (HBP.out.2 rfl)
          have hk30 : k ≤ 31 := by omega
          have HKN := Kp.mk hkn
          clear hkn
          go_wp2_with (at_builtin; with_reducible refine gate_builtin (b := .append) (xs := #[.tmp 71, .tmp 72]) rfl ?_; go_must (refine app_text (w0 := w4) (base := w4.heap.size) (s := .tmp 71) (x := .tmp 72) (v := .slice Az k cz) rfl rfl (zonesL ls k) ⟨#[]⟩ rfl rfl HR.out HW.out hsz4 (by rw [zones_len]; omega) ?_))
          intro v5 w5 HR5 HB5 hs5
          have e : zonesL ls k ++ [(⟨#[]⟩ : ByteArray)] = zonesL ls n := by
            rw [← HKN.out, zones_snoc, List.drop_eq_nil_of_le (by have := HN.out; have := HKN.out; omega)]
            rfl
          rw [e] at HR5
          obtain ⟨A5, c5, hv5⟩ := Kd.R_slice HR5.out
          rw [zones_len] at hv5
          subst hv5
          go_wp2
          go_meet
          case rel => exact ⟨_, _, rfl, HR5, HB5⟩
        · have hkn := HK1.out.1 (HBP.out.1 rfl)
          subst hkn
          go_wp2
          go_meet
          case rel => exact ⟨_, _, rfl, HR, HW⟩
      case rest =>
        obtain ⟨Az, cz, rfl, HZ, HW5⟩ := hcut
        clear HR HW HK1 HBP hb b
        have hmk := print_make_of (P := Tryd.prog) 37 3 (.int .i64 0) 8 Tryd.underlying37 (by kernel_rfl) rfl (by decide) n (by omega)
        have HO0 : Kp ((Kd.int .i64).R 3 (wc.alloc (.cells (madeCells #[.int .i64 0] n) 3)) wc.heap.size (fun _ => True) (.slice (some ⟨wc.heap.size, 0, none⟩) n n) (castI (fillN n 0))) := ⟨by
          rw [fill_zero]
          exact Kd.R_of_own (by have h := own_made_of (enc := Value.int .i64) (d := 0) wc wc.heap.size 3 n (Nat.le_refl _) (by omega); simpa [nums, encs] using h) (fun _ _ => trivial)⟩
        have HA := Kp.mk ((Below.refl wc.heap.size wc).alloc (Nat.le_refl _) (.cells (madeCells #[.int .i64 0] n) 3))
        go_wp2_with (fail)
        clear hmk
        go_loopw [79] (fun i wr => ∃ k : Nat, k ≤ n ∧ i = .int .i64 (k : Int) ∧ Kp ((Kd.int .i64).R 3 wr wc.heap.size (fun _ => True) (.slice (some ⟨wc.heap.size, 0, none⟩) n n) (castI (fillN n k))) ∧ Kp (Below wc.heap.size wc wr)) (fun i _ => n - (intOf i).toNat)
        case atStart => exact ⟨0, Nat.zero_le _, rfl, HO0, HA⟩
        case round =>
          clear HO0 HA
          obtain ⟨k, hk, rfl, HR, HW⟩ := hrel
          by_cases hlt : k < n
          · have hk0 : (0 : Int) ≤ (k : Int) := by omega
            have hk1 : (k : Int) < (n : Int) := by omega
            obtain ⟨hci, hfi⟩ := Kd.R_celln (0 : Int) HR.out (k : Int) hk0 hk1
            rw [Int.toNat_natCast] at hci hfi
            have h1 := Kd.R_putn HR.out (k : Int) (k : Int)
            rw [Int.toNat_natCast, fill_step n k hlt] at h1
            have H1 := Kp.mk h1
            have HW1 := Kp.mk (HW.out.setCell (p := ⟨wc.heap.size, k, none⟩) (Nat.le_refl _) (.int .i64 (k : Int)))
            clear h1
            go_wp2
            exact ⟨⟨k + 1, by omega, by go_num, H1, HW1⟩, by simp [intOf]; omega⟩
          · obtain rfl : n = k := by omega
            rw [fill_full] at HR
            go_wp2_with (fail)
            go_loopw [13] (fun i wx => ∃ (j : Nat) (ns : List Nat), j ≤ ts.length ∧ i = .int .i64 (j : Int) ∧ Kp (ns.Perm (List.range n)) ∧ Kp ((Kd.int .i64).R 3 wx wc.heap.size (fun _ => True) (.slice (some ⟨wc.heap.size, 0, none⟩) n n) (castI ns)) ∧ Kp (Below wc.heap.size wc wx)) (fun i _ => ts.length - (intOf i).toNat)
            case atStart => exact ⟨0, List.range n, Nat.zero_le _, rfl, ⟨List.Perm.refl _⟩, HR, HW⟩
            case round =>
              clear HR HW hlt hk
              obtain ⟨j, ns, hj, rfl, HPM, HR, HW⟩ := hrel
              by_cases hjl : j < ts.length
              · by_cases h40 : j < 40
                · have hC := Kd.C_below HC1.out (HS4.out.below.trans ((HW5.out.mono (HS4.out.size)).trans (HW.out.mono (Nat.le_trans HS4.out.size HW5.out.size))))
                  obtain ⟨ad, rfl, hcell⟩ := at_nat hC j hjl
                  obtain ⟨x, hx⟩ : ∃ x, ts.getD j 0 = x := ⟨_, rfl⟩
                  rw [hx] at hcell
                  obtain ⟨K, hK, hKe⟩ := umod x (n : Int) (by omega) (by omega)
                  have hnl : ns.length = n := by rw [HPM.out.length_eq, List.length_range]
                  have hml : j % n < n := Nat.mod_lt _ hn0
                  have hKl : K < n := by omega
                  have hmt : (j : Int).tmod (n : Int) = ((j % n : Nat) : Int) := by rw [Int.tmod_eq_emod_of_nonneg (by omega)]; simp
                  obtain ⟨m, hm⟩ : ∃ m, j % n = m := ⟨_, rfl⟩
                  rw [hm] at hml hmt
                  have hm0 : (0 : Int) ≤ (m : Int) := by omega
                  have hm1 : (m : Int) < (n : Int) := by omega
                  have hK0 : (0 : Int) ≤ (K : Int) := by omega
                  obtain ⟨hci, hfi⟩ := Kd.R_celln (0 : Int) HR.out (m : Int) hm0 hm1
                  obtain ⟨hcj, hfj⟩ := Kd.R_celln (0 : Int) HR.out (K : Int) hK0 hK
                  rw [Int.toNat_natCast, castI_get] at hci hcj
                  rw [Int.toNat_natCast] at hfi hfj
                  have hnz : ((n : Int) == 0) = false := by simp; omega
                  obtain ⟨y, hy⟩ : ∃ y, ns.getD K 0 = y := ⟨_, rfl⟩
                  obtain ⟨z, hz⟩ : ∃ z, ns.getD m 0 = z := ⟨_, rfl⟩
                  have HY := Kp.mk hy
                  have HZZ := Kp.mk hz
                  rw [hz] at hci
                  rw [hy] at hcj
                  clear hm hx hC hy hz
                  go_wp2_with (fail)
                  by_cases hmk : K = m
                  · subst hmk
                    obtain rfl : y = z := HY.out.symm.trans HZZ.out
                    go_region
                    have h1 := Kd.R_putn HR.out (K : Int) (y : Int)
                    have h2 := Kd.R_putn h1 (K : Int) (y : Int)
                    simp only [Int.toNat_natCast] at h1 h2
                    have hsm := swap_map ns K K (by omega) (by omega)
                    simp only [HY.out, HZZ.out] at hsm
                    change ((castI ns).set K _).set K _ = castI _ at hsm
                    rw [hsm] at h2
                    have hsp := swap_perm ns K K (by omega) (by omega)
                    simp only [HY.out, HZZ.out] at hsp
                    have H2 := Kp.mk (Kd.R_below h2 (below_drew (Below.refl _ _)))
                    have HP2 := Kp.mk (hsp.trans HPM.out)
                    have HB2 := Kp.mk (((HW.out.setCell (p := ⟨wc.heap.size, K, none⟩) (Nat.le_refl _) (.int .i64 (y : Int))).setCell (p := ⟨wc.heap.size, K, none⟩) (Nat.le_refl _) (.int .i64 (y : Int))).drew)
                    clear h1 h2 hsm hsp hci hcj hfi hfj hmt hnz
                    go_wp2
                    exact ⟨⟨j + 1, _, by omega, by go_num, HP2, H2, HB2⟩, by simp [intOf]; omega⟩
                  · have hmk2 : m ≠ K := fun e => hmk e.symm
                    go_region
                    have h1 := Kd.R_putn HR.out (m : Int) (y : Int)
                    have h2 := Kd.R_putn h1 (K : Int) (z : Int)
                    simp only [Int.toNat_natCast] at h1 h2
                    have hsm := swap_map ns m K (by omega) (by omega)
                    simp only [HY.out, HZZ.out] at hsm
                    change ((castI ns).set m _).set K _ = castI _ at hsm
                    rw [hsm] at h2
                    have hsp := swap_perm ns m K (by omega) (by omega)
                    simp only [HY.out, HZZ.out] at hsp
                    have H2 := Kp.mk (Kd.R_below h2 (below_drew (Below.refl _ _)))
                    have HP2 := Kp.mk (hsp.trans HPM.out)
                    have HB2 := Kp.mk (((HW.out.setCell (p := ⟨wc.heap.size, m, none⟩) (Nat.le_refl _) (.int .i64 (y : Int))).setCell (p := ⟨wc.heap.size, K, none⟩) (Nat.le_refl _) (.int .i64 (z : Int))).drew)
                    clear h1 h2 hsm hsp hci hcj hfi hfj hmt hnz
                    go_wp2
                    exact ⟨⟨j + 1, _, by omega, by go_num, HP2, H2, HB2⟩, by simp [intOf]; omega⟩
                · go_wp2_with (fail)
                  go_loopw [15] (fun i wx => ∃ (k : Nat) (S : Nat → Prop), k ≤ n ∧ i = .int .i64 (k : Int) ∧ Kp (Tb w wx S w2.heap.size (10001 * k) tb (ordPs ls (ns.take k))) ∧ Kp (StM w wx) ∧ Kp (Kd.string.R 9 wx w4.heap.size (fun _ => True) (.slice Az n cz) (zonesL ls n)) ∧ Kp ((Kd.int .i64).R 3 wx wc.heap.size (fun _ => True) (.slice (some ⟨wc.heap.size, 0, none⟩) n n) (castI ns)) ∧ Kp (∀ z, S z → ¬ ((Value.slice Az n cz).ownBlock = some z) ∧ ¬ (wc.heap.size = z))) (fun i _ => n - (intOf i).toNat)
                  case atStart => exact ⟨0, _, Nat.zero_le _, rfl, ⟨(HT4.out.step HW5.out).step HW.out⟩, ⟨(HS4.out.step HW5.out).step HW.out⟩, ⟨Kd.R_below HZ.out HW.out⟩, HR, ⟨fun z hs => by
                    have h1 := HT4.out.lt z hs
                    have h2 := HW5.out.size
                    exact ⟨fun hv => by have := own_ge HZ.out z hv; omega, by omega⟩⟩⟩
                  case round =>
                    clear HR HW
                    obtain ⟨k, S, hk, rfl, HT, HSX, HZX, HRX, HFR⟩ := hrel
                    have hnl : ns.length = n := by rw [HPM.out.length_eq, List.length_range]
                    by_cases hlt : k < n
                    · have hol := perm_lt n ns HPM.out k (by omega)
                      obtain ⟨o, ho⟩ : ∃ o, ns.getD k 0 = o := ⟨_, rfl⟩
                      have hk0 : (0 : Int) ≤ (k : Int) := by omega
                      have hk1 : (k : Int) < (n : Int) := by omega
                      obtain ⟨hci, -⟩ := Kd.R_celln (0 : Int) HRX.out (k : Int) hk0 hk1
                      rw [Int.toNat_natCast, castI_get, ho] at hci
                      rw [ho] at hol
                      have hsn := ord_snoc ls ns k o (by omega) ho
                      obtain ⟨adz, rfl, hcz⟩ := at_natS (R_C HZX.out).1 o hol
                      rw [zones_get ls n o hol] at hcz
                      have hzp := HPATH.out o
                      have hzl := sub_zone ls o ls.length 62 HSZ.out
                      rw [List.take_length] at hzl
                      obtain ⟨zn, hzn⟩ : ∃ zn, zoneF [] (ls.drop o) = zn := ⟨_, rfl⟩
                      rw [hzn] at hcz hzp hzl
                      have hpl := ord_len ls ns k 31 (by omega)
                      have HSN := Kp.mk hsn
                      have HZP := Kp.mk hzp
                      have HTd := Kp.mk (HT.out.step (below_drew (Below.refl _ _)))
                      have HSd := Kp.mk (HSX.out.step (below_drew (Below.refl _ _)))
                      have HZd := Kp.mk (Kd.R_below HZX.out (below_drew (Below.refl _ _)))
                      have HRd := Kp.mk (Kd.R_below HRX.out (below_drew (Below.refl _ _)))
                      have o0 : (0 : Int) ≤ (o : Int) := by omega
                      have o1 : (o : Int) < (n : Int) := by omega
                      clear hsn hzp hzn ho HT HSX HZX HRX
                      go_wp2_with (fail)
                      go_still_tail 17, (by kernel_rfl)
                      go_wp2_with (fail)
                      refine addT_ HTd HSd HE (mkB zn) _ _ (by rw [mkB_size]; omega) (by omega) (by omega) ?_
                      intro S7 w7 HT7 HS7 HK7 HF7 hz7
                      rw [mkB_toList, HZP.out, ← HSN.out] at HT7
                      have HZ7 := Kp.mk (rowS_keep HZd.out (fun z hz hv => HK7.out z hz (fun hs => (HFR.out z hs).1 hv)))
                      have HR7 := Kp.mk (rowI_keep HRd.out (fun z hz hv => HK7.out z hz (fun hs => (HFR.out z hs).2 (by injection hv))))
                      have HFR7 : Kp (∀ z, S7 z → ¬ ((Value.slice (some adz) n cz).ownBlock = some z) ∧ ¬ (wc.heap.size = z)) := ⟨fun z hs => by
                        rcases HF7.out z hs with h | h
                        · exact HFR.out z h
                        · refine ⟨fun hv => ?_, fun hv => ?_⟩
                          · have := own_lt (Kd.own_of_R HZd.out) z hv
                            omega
                          · have := own_lt (Kd.own_of_R HRd.out) z (by rw [← hv]; rfl)
                            omega⟩
                      clear HFR HF7 HK7 HZd HRd HTd HSd HSN HZP hci hcz
                      go_wp2
                      exact ⟨⟨k + 1, S7, by omega, by go_num, HT7, HS7, HZ7, HR7, HFR7⟩, by simp [intOf]; omega⟩
                    · obtain rfl : n = k := by omega
                      have hpl := ord_len ls ns n 31 (by omega)
                      have hom : matchF (ordPs ls (ns.take n)) (pathOf p) = castI (List.range n) := by
                        have h1 := ord_match ls ns (by rw [HN.out]; exact HPM.out)
                        rw [HN.out] at h1
                        rw [HPP.out, List.take_of_length_le (by omega)]
                        exact h1
                      have HOM := Kp.mk hom
                      clear hom
                      go_wp2_with (fail)
                      refine matchT_ HT HSX (mkB p) (by omega) (by omega) ?_
                      intro A8 c8 w8 hc8 HC8 HB8 HS8
                      rw [mkB_toList, HOM.out, castI_len, List.length_range] at *
                      clear HT HSX HZX HRX HFR HOM HB8
                      go_wp2_with (fail)
                      go_loopw [17] (fun i wx => ∃ k : Nat, k ≤ n ∧ i = .int .i64 (k : Int) ∧ Kp (w8 = wx)) (fun i _ => n - (intOf i).toNat)
                      case atStart => exact ⟨0, Nat.zero_le _, rfl, ⟨rfl⟩⟩
                      case round =>
                        obtain ⟨i, hi, rfl, HWX⟩ := hrel
                        obtain rfl := HWX.out
                        clear HWX
                        by_cases hil : i < n
                        · obtain ⟨ad8, rfl, hci⟩ := at_nat HC8.out i hil
                          rw [range_get n i hil] at hci
                          go_wp2
                          exact ⟨⟨i + 1, by omega, by go_num, ⟨trivial⟩⟩, by simp [intOf]; omega⟩
                        · go_wp2_with (fail)
                          refine q_ (add_nil _ _ _ _) ?_
                          go_wp2_with (fail)
                          refine q_ (match_nil _ _) ?_
                          go_wp2_with (fail)
                          refine q_ (len_nil _) ?_
                          go_wp2
                          go_ret
                          exact ⟨rfl, HS8.out.below⟩
              · go_wp2_with (fail)
                go_loopw [15] (fun i wx => ∃ (k : Nat) (S : Nat → Prop), k ≤ n ∧ i = .int .i64 (k : Int) ∧ Kp (Tb w wx S w2.heap.size (10001 * k) tb (ordPs ls (ns.take k))) ∧ Kp (StM w wx) ∧ Kp (Kd.string.R 9 wx w4.heap.size (fun _ => True) (.slice Az n cz) (zonesL ls n)) ∧ Kp ((Kd.int .i64).R 3 wx wc.heap.size (fun _ => True) (.slice (some ⟨wc.heap.size, 0, none⟩) n n) (castI ns)) ∧ Kp (∀ z, S z → ¬ ((Value.slice Az n cz).ownBlock = some z) ∧ ¬ (wc.heap.size = z))) (fun i _ => n - (intOf i).toNat)
                case atStart => exact ⟨0, _, Nat.zero_le _, rfl, ⟨(HT4.out.step HW5.out).step HW.out⟩, ⟨(HS4.out.step HW5.out).step HW.out⟩, ⟨Kd.R_below HZ.out HW.out⟩, HR, ⟨fun z hs => by
                  have h1 := HT4.out.lt z hs
                  have h2 := HW5.out.size
                  exact ⟨fun hv => by have := own_ge HZ.out z hv; omega, by omega⟩⟩⟩
                case round =>
                  clear HR HW
                  obtain ⟨k, S, hk, rfl, HT, HSX, HZX, HRX, HFR⟩ := hrel
                  have hnl : ns.length = n := by rw [HPM.out.length_eq, List.length_range]
                  by_cases hlt : k < n
                  · have hol := perm_lt n ns HPM.out k (by omega)
                    obtain ⟨o, ho⟩ : ∃ o, ns.getD k 0 = o := ⟨_, rfl⟩
                    have hk0 : (0 : Int) ≤ (k : Int) := by omega
                    have hk1 : (k : Int) < (n : Int) := by omega
                    obtain ⟨hci, -⟩ := Kd.R_celln (0 : Int) HRX.out (k : Int) hk0 hk1
                    rw [Int.toNat_natCast, castI_get, ho] at hci
                    rw [ho] at hol
                    have hsn := ord_snoc ls ns k o (by omega) ho
                    obtain ⟨adz, rfl, hcz⟩ := at_natS (R_C HZX.out).1 o hol
                    rw [zones_get ls n o hol] at hcz
                    have hzp := HPATH.out o
                    have hzl := sub_zone ls o ls.length 62 HSZ.out
                    rw [List.take_length] at hzl
                    obtain ⟨zn, hzn⟩ : ∃ zn, zoneF [] (ls.drop o) = zn := ⟨_, rfl⟩
                    rw [hzn] at hcz hzp hzl
                    have hpl := ord_len ls ns k 31 (by omega)
                    have HSN := Kp.mk hsn
                    have HZP := Kp.mk hzp
                    have HTd := Kp.mk (HT.out.step (below_drew (Below.refl _ _)))
                    have HSd := Kp.mk (HSX.out.step (below_drew (Below.refl _ _)))
                    have HZd := Kp.mk (Kd.R_below HZX.out (below_drew (Below.refl _ _)))
                    have HRd := Kp.mk (Kd.R_below HRX.out (below_drew (Below.refl _ _)))
                    have o0 : (0 : Int) ≤ (o : Int) := by omega
                    have o1 : (o : Int) < (n : Int) := by omega
                    clear hsn hzp hzn ho HT HSX HZX HRX
                    go_wp2_with (fail)
                    go_still_tail 17, (by kernel_rfl)
                    go_wp2_with (fail)
                    refine addT_ HTd HSd HE (mkB zn) _ _ (by rw [mkB_size]; omega) (by omega) (by omega) ?_
                    intro S7 w7 HT7 HS7 HK7 HF7 hz7
                    rw [mkB_toList, HZP.out, ← HSN.out] at HT7
                    have HZ7 := Kp.mk (rowS_keep HZd.out (fun z hz hv => HK7.out z hz (fun hs => (HFR.out z hs).1 hv)))
                    have HR7 := Kp.mk (rowI_keep HRd.out (fun z hz hv => HK7.out z hz (fun hs => (HFR.out z hs).2 (by injection hv))))
                    have HFR7 : Kp (∀ z, S7 z → ¬ ((Value.slice (some adz) n cz).ownBlock = some z) ∧ ¬ (wc.heap.size = z)) := ⟨fun z hs => by
                      rcases HF7.out z hs with h | h
                      · exact HFR.out z h
                      · refine ⟨fun hv => ?_, fun hv => ?_⟩
                        · have := own_lt (Kd.own_of_R HZd.out) z hv
                          omega
                        · have := own_lt (Kd.own_of_R HRd.out) z (by rw [← hv]; rfl)
                          omega⟩
                    clear HFR HF7 HK7 HZd HRd HTd HSd HSN HZP hci hcz
                    go_wp2
                    exact ⟨⟨k + 1, S7, by omega, by go_num, HT7, HS7, HZ7, HR7, HFR7⟩, by simp [intOf]; omega⟩
                  · obtain rfl : n = k := by omega
                    have hpl := ord_len ls ns n 31 (by omega)
                    have hom : matchF (ordPs ls (ns.take n)) (pathOf p) = castI (List.range n) := by
                      have h1 := ord_match ls ns (by rw [HN.out]; exact HPM.out)
                      rw [HN.out] at h1
                      rw [HPP.out, List.take_of_length_le (by omega)]
                      exact h1
                    have HOM := Kp.mk hom
                    clear hom
                    go_wp2_with (fail)
                    refine matchT_ HT HSX (mkB p) (by omega) (by omega) ?_
                    intro A8 c8 w8 hc8 HC8 HB8 HS8
                    rw [mkB_toList, HOM.out, castI_len, List.length_range] at *
                    clear HT HSX HZX HRX HFR HOM HB8
                    go_wp2_with (fail)
                    go_loopw [17] (fun i wx => ∃ k : Nat, k ≤ n ∧ i = .int .i64 (k : Int) ∧ Kp (w8 = wx)) (fun i _ => n - (intOf i).toNat)
                    case atStart => exact ⟨0, Nat.zero_le _, rfl, ⟨rfl⟩⟩
                    case round =>
                      obtain ⟨i, hi, rfl, HWX⟩ := hrel
                      obtain rfl := HWX.out
                      clear HWX
                      by_cases hil : i < n
                      · obtain ⟨ad8, rfl, hci⟩ := at_nat HC8.out i hil
                        rw [range_get n i hil] at hci
                        go_wp2
                        exact ⟨⟨i + 1, by omega, by go_num, ⟨trivial⟩⟩, by simp [intOf]; omega⟩
                      · go_wp2_with (fail)
                        refine q_ (add_nil _ _ _ _) ?_
                        go_wp2_with (fail)
                        refine q_ (match_nil _ _) ?_
                        go_wp2_with (fail)
                        refine q_ (len_nil _) ?_
                        go_wp2
                        go_ret
                        exact ⟨rfl, HS8.out.below⟩
end Go.Proofs.YtimaliamidgflaaDoor
