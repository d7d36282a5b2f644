/-
  The law NameBack: what is written is read, wherever it stands, in capitals too; a pointer to it leads there: the walk.
-/
import Derived.Test.YtimaliamidgflaaDoorNbB
import Derived.Test.YtimaliamidgflaaDoorPlayN
import Derived.Test.YtimaliamidgflaaDoorAwake12
import Derived.Test.YtimaliamidgflaaDoorCx
import Derived.Test.YtimaliamidgflaaDoorNameShort
import Derived.Test.YtimaliamidgflaaDoorNpA
namespace Go.Proofs.YtimaliamidgflaaDoor
open Go.RowKit Go.Proofs.YtimaliamidgflaaDoorW.PrintWords
set_option maxRecDepth 100000
set_option maxHeartbeats 1000000

theorem cap_end (us : List Bool) (l : List Int) : capL us (l ++ [0]) = capL us l ++ [0] := by
  rw [capL_app]
  congr 1
  cases us.drop l.length with
  | nil => rfl
  | cons u r => simp [capL, capB]
theorem cat_z (y : L) : (⟨#[122, 46]⟩ : ByteArray) ++ mkB y = mkB (122 :: 46 :: y) := by
  apply ByteArray.ext
  simp [mkB]
theorem nameBack_walk (w : World) (s0 : ByteArray) (h0 : s0.size ≤ 9223372036854775807) (A1 : Option Addr) (n1 c1 : Nat) (xs1 : List Int) (hC1 : (Kd.int .u8).C w A1 n1 xs1) (hc1 : n1 ≤ c1) (hm1 : c1 ≤ 9223372036854775807) (hx1 : Byts xs1)
    (A2 : Option Addr) (n2 c2 : Nat) (xs2 : List Int) (hC2 : (Kd.int .u8).C w A2 n2 xs2) (hc2 : n2 ≤ c2) (hm2 : c2 ≤ 9223372036854775807) (hx2 : Byts xs2)
    (A3 : Option Addr) (n3 c3 : Nat) (us : List Bool) (hC3 : Kd.bool.C w A3 n3 us) (hc3 : n3 ≤ c3) (hm3 : c3 ≤ 9223372036854775807) (hE : Env w) :
    Calls Tryd.prog 10 #[.string s0, .slice A1 n1 c1, .slice A2 n2 c2, .slice A3 n3 c3] w fun e w' => e = .returned (.bool true) ∧ Below w.heap.size w w' := by
  have HS := Kp.mk (St.start hE)
  clear hE
  obtain ⟨p, hp⟩ : ∃ p, playN s0.data.toList = p := ⟨_, rfl⟩
  have hpr := playN_right s0.data.toList
  rw [hp] at hpr
  obtain ⟨hpr, hpl⟩ := hpr
  have hps : (mkB p).size ≤ 60 := hpl
  have HPR := Kp.mk hpr
  have HP := Kp.mk (playname_calls s0 w h0)
  rw [hp] at HP
  have HWG := Kp.mk (fun w h => write_good (mkB p) w h (by omega) hpr)
  rw [mkB_toList] at HWG
  clear hp hpr
  obtain rfl := (C_len hC1).1
  obtain rfl := (C_len hC2).1
  obtain rfl := (C_len hC3).1
  have HC1 := Kp.mk hC1
  have HC2 := Kp.mk hC2
  have HC3 := Kp.mk hC3
  have HX1 := Kp.mk hx1
  have HX2 := Kp.mk hx2
  clear hC1 hC2 hC3 hx1 hx2
  by_cases g1 : 500 < xs1.length
  · have b1 : decide ((500 : Int) < (xs1.length : Int)) = true := by simp; omega
    go_enter Tryd.func10, Tryd.ntmps10
    go_wp2_with (fail)
    refine b_ HP.out HS ?_
    intro w1 HB1 HS1
    go_wp2_with (fail)
    refine b_ (awake12_calls _ HS1.out.env) HS1 ?_
    intro w3 HB3 HS3
    go_wp2
    go_ret
    exact ⟨rfl, HS3.out.below⟩
  have b1 : decide ((500 : Int) < (xs1.length : Int)) = false := by simp; omega
  by_cases g2 : 500 < xs2.length
  · have b2 : decide ((500 : Int) < (xs2.length : Int)) = true := by simp; omega
    go_enter Tryd.func10, Tryd.ntmps10
    go_wp2_with (fail)
    refine b_ HP.out HS ?_
    intro w1 HB1 HS1
    go_wp2_with (fail)
    refine b_ (awake12_calls _ HS1.out.env) HS1 ?_
    intro w3 HB3 HS3
    go_wp2
    go_ret
    exact ⟨rfl, HS3.out.below⟩
  have b2 : decide ((500 : Int) < (xs2.length : Int)) = false := by simp; omega
  obtain ⟨ws, hws⟩ : ∃ ws, wireOf (labelsOf p) ++ [0] = ws := ⟨_, rfl⟩
  have hwl : ws.length ≤ 255 := by
    have := wire_len (labelsOf p)
    have := (right_labels p HPR.out).1
    rw [← hws]; simp; omega
  rw [hws] at HWG
  have HWS := Kp.mk hws
  clear hws
  go_enter Tryd.func10, Tryd.ntmps10
  go_wp2_with (fail)
  refine b_ HP.out HS ?_
  intro w1 HB1 HS1
  go_wp2_with (fail)
  refine g2sn_ (HWG.out _ HS1.out.env) HS1 ?_
  intro A c w2 hc hcm HCC HM2 HB2 HS2
  have hsz2 := HS2.out.size
  have HC1a := Kp.mk (Kd.C_below HC1.out HS2.out.below)
  go_wp2_with (at_builtin; with_reducible refine gate_builtin (b := .append) (xs := #[.const (.slice none 0 0), .tmp 38]) rfl ?_; refine app_bytes (w0 := w2) (base := w2.heap.size) rfl rfl [] xs1 A1 xs1.length c1 rfl rfl (Kd.R_nil _ _ _ _ _) HC1a.out (Below.refl _ _) (Nat.le_refl _) (by simp; omega) ?_)
  intro v2 wa HRa HBa hsa
  have HCCa := Kp.mk (Kd.C_below HCC.out HBa.out)
  go_wp2_with (at_builtin; with_reducible refine gate_builtin (b := .append) (xs := #[.tmp 39, .tmp 40]) rfl ?_; refine app_bytes (w0 := w2) (s := .tmp 39) (x := .tmp 40) (v := v2) (base := w2.heap.size) rfl rfl xs1 ws A ws.length c rfl rfl HRa.out HCCa.out HBa.out hsa.out (by omega) ?_)
  intro v3 wb HRb HBb hsb
  obtain ⟨Ab, cb, rfl⟩ := Kd.R_slice HRb.out
  have hl := @List.length_append _ xs1 ws
  rw [hl] at HRb ⊢
  clear hl
  go_wp2_with (fail)
  go_loopw [12] (fun i wr => ∃ j : Nat, j ≤ ws.length ∧ i = .int .i64 ((xs1.length : Int) + (j : Int)) ∧ Kp (Below w2.heap.size w2 wr) ∧ Kp ((Kd.int .u8).R 5 wr w2.heap.size (fun _ => True) (.slice Ab (xs1.length + ws.length) cb) (xs1 ++ capL (us.take j) ws))) (fun i _ => xs1.length + ws.length - (intOf i).toNat)
  case atStart => exact ⟨0, Nat.zero_le _, by simp, HBb, ⟨by rw [List.take_zero, capL_nil]; exact HRb.out⟩⟩
  case round =>
    obtain ⟨j, hj, rfl, HW, HR⟩ := hrel
    by_cases hlt : j < ws.length
    · obtain ⟨g, rfl, hg, -⟩ := R_form HR.out (by rw [List.length_append, capL_len]; omega)
      obtain ⟨hcell, hfz⟩ := Kd.R_celln (0 : Int) HR.out ((xs1.length : Int) + (j : Int)) (by omega) (by omega)
      have hrd : rdOf 0 (xs1 ++ capL (us.take j) ws) ((xs1.length : Int) + (j : Int)) = ws.getD j 0 := by
        have h := cap_get us ws j
        rw [← h, rdOf, show ((xs1.length : Int) + (j : Int)).toNat = xs1.length + j by omega, List.getD_eq_getElem?_getD, List.getD_eq_getElem?_getD, List.getElem?_append_right (by omega), Nat.add_sub_cancel_left]
      have htn : ((xs1.length : Int) + (j : Int)).toNat = xs1.length + j := by omega
      rw [hrd, htn] at hcell
      rw [htn] at hfz
      have hst := cap_step us ws j hlt
      obtain ⟨x, hx⟩ : ∃ x, ws.getD j 0 = x := ⟨_, rfl⟩
      have hcg := cap_get us ws j
      rw [hx] at hcell hst hcg
      have HST := Kp.mk hst
      have HSK : Kp (capB (us.getD j false) x = x → capL (us.take (j + 1)) ws = capL (us.take j) ws) := ⟨fun h => by
        rw [hst, h]
        have hjl : j < (capL (us.take j) ws).length := by rw [capL_len]; exact hlt
        rw [← hcg, List.getD_eq_getElem?_getD, List.getElem?_eq_getElem hjl, Option.getD_some, List.set_getElem_self]⟩
      have HX := Kp.mk hx
      have bl : decide ((xs1.length : Int) + (j : Int) < (xs1.length : Int) + (ws.length : Int)) = true := by simp; omega
      have HTN := Kp.mk htn
      clear hrd htn hst hx hcg
      by_cases hu : j < us.length
      · obtain ⟨ad3, he3, hc3⟩ := at_natB (Kd.C_below HC3.out (HS2.out.step HW.out).below) j hu
        obtain ⟨u, hue⟩ : ∃ u, us.getD j false = u := ⟨_, rfl⟩
        rw [hue] at hc3 HST HSK
        subst he3
        clear hue
        cases u with
        | false =>
          have HK := Kp.mk (HSK.out (by simp [capB]))
          clear HST HSK
          go_wp2
          exact ⟨⟨j + 1, by omega, by simp; omega, HW, ⟨by rw [HK.out]; exact HR.out⟩⟩, by simp [intOf]; omega⟩
        | true =>
          by_cases h97 : x < 97
          · have b97 : decide (97 ≤ x) = false := by simp; omega
            have HK := Kp.mk (HSK.out (by simp [capB]; omega))
            clear HST HSK
            go_wp2
            exact ⟨⟨j + 1, by omega, by simp; omega, HW, ⟨by rw [HK.out]; exact HR.out⟩⟩, by simp [intOf]; omega⟩
          · have b97 : decide (97 ≤ x) = true := by simp; omega
            by_cases h122 : 122 < x
            · have b122 : decide (x ≤ 122) = false := by simp; omega
              have HK := Kp.mk (HSK.out (by simp [capB]; omega))
              clear HST HSK
              go_wp2
              exact ⟨⟨j + 1, by omega, by simp; omega, HW, ⟨by rw [HK.out]; exact HR.out⟩⟩, by simp [intOf]; omega⟩
            · have b122 : decide (x ≤ 122) = true := by simp; omega
              have hput := Kd.R_putn HR.out ((xs1.length : Int) + (j : Int)) (x - 32)
              rw [HTN.out, List.set_append_right _ _ (by omega), Nat.add_sub_cancel_left] at hput
              have hcb : capB true x = x - 32 := by unfold capB; rw [if_pos ⟨rfl, by omega, by omega⟩]
              rw [hcb] at HST
              rw [← HST.out] at hput
              have HPT := Kp.mk hput
              clear hput hcb HST HSK
              go_wp2
              exact ⟨⟨j + 1, by omega, by simp; omega, ⟨HW.out.setCell hg _⟩, HPT⟩, by simp [intOf]; omega⟩
      · have hz : us.getD j false = false := by simp [List.getD_eq_getElem?_getD, List.getElem?_eq_none (show us.length ≤ j by omega)]
        have HK := Kp.mk (HSK.out (by rw [hz]; simp [capB]))
        clear HST HSK hz
        go_wp2
        exact ⟨⟨j + 1, by omega, by simp; omega, HW, ⟨by rw [HK.out]; exact HR.out⟩⟩, by simp [intOf]; omega⟩
    · obtain rfl : j = ws.length := by omega
      have hend : xs1 ++ capL (us.take ws.length) ws = xs1 ++ (capL us (wireOf (labelsOf p)) ++ [0]) := by rw [cap_all, ← HWS.out, cap_end]
      rw [hend] at HR
      have hlb : (xs1 ++ (capL us (wireOf (labelsOf p)) ++ [0])).length = xs1.length + ws.length := by rw [← hend, List.length_append, capL_len]
      have HLB := Kp.mk hlb
      have bl : decide ((xs1.length : Int) + (ws.length : Int) < (xs1.length : Int) + (ws.length : Int)) = false := by simp
      have HC2a := Kp.mk (Kd.C_below HC2.out (HS2.out.step HW.out).below)
      have hszr := HW.out.size
      clear hend hlb hlt
      go_wp2_with (at_builtin; with_reducible refine gate_builtin (b := .append) (xs := #[.tmp 90, .tmp 91]) rfl ?_; refine app_bytes (w0 := w2) (s := .tmp 90) (x := .tmp 91) (v := .slice Ab (xs1.length + ws.length) cb) (base := w2.heap.size) rfl rfl (xs1 ++ (capL us (wireOf (labelsOf p)) ++ [0])) xs2 A2 xs2.length c2 rfl rfl HR.out HC2a.out HW.out hszr (by rw [HLB.out]; omega) ?_)
      intro v4 wc HRc HBc hsc
      have hrd := back_read p HPR.out us xs1 xs2
      have hpt := back_point p HPR.out hpl us xs1 xs2 (by omega) _ rfl
      have hyl : (xs1 ++ (capL us (wireOf (labelsOf p)) ++ 0 :: xs2)).length = xs1.length + ws.length + xs2.length := by rw [← HWS.out]; simp [capL_len]; omega
      have hwn : ((xs1.length + (wireOf (labelsOf p)).length + 1 : Nat) : Int) = (xs1.length : Int) + (ws.length : Int) := by rw [← HWS.out]; simp; omega
      have hyb : Byts (xs1 ++ (capL us (wireOf (labelsOf p)) ++ 0 :: xs2)) := by
        intro x hx
        rcases List.mem_append.1 hx with h | h
        · exact HX1.out x h
        rcases List.mem_append.1 h with h | h
        · exact cap_byts us _ (fun y hy => wire_byts _ (right_labels p HPR.out).2 y (List.mem_append_left _ hy)) x h
        rcases List.mem_cons.1 h with rfl | h
        · decide
        · exact HX2.out x h
      rw [hwn] at hrd
      obtain ⟨ys, hye⟩ : ∃ ys, xs1 ++ (capL us (wireOf (labelsOf p)) ++ 0 :: xs2) = ys := ⟨_, rfl⟩
      rw [hye] at HRc hrd hpt hyl hyb
      have HRD := Kp.mk hrd
      have HPT := Kp.mk hpt
      have HYB := Kp.mk hyb
      have hyl2 : ys.length ≤ 1500 := by omega
      have HYL := Kp.mk hyl
      clear hrd hpt hyb hye hwn hyl
      obtain ⟨Ac, cc, rfl⟩ := Kd.R_slice HRc.out
      have hccm : cc ≤ 9223372036854775807 := M_cap (t := 5) ⟨_, rfl, HRc.out⟩
      have hcc := (R_C HRc.out).2
      have HSc := Kp.mk (HS2.out.step HBc.out)
      go_wp2_with (fail)
      refine gsie_ (read_calls Ac cc ys (xs1.length : Int) wc _ _ _ (R_C HRc.out).1 HYB.out hcc hccm HSc.out.env (by omega) (by omega) (by omega) HRD.out) HSc ?_
      intro v5 w5 HM5 HB5 HS5
      obtain rfl := er_open_none (erK.K_of_M HM5.out)
      have HR5 := Kp.mk (Kd.R_below HRc.out HB5.out)
      have HB25 := Kp.mk (below_step HBc.out HB5.out)
      have hs5 := HB25.out.size
      go_wp2_with (at_builtin; with_reducible refine gate_builtin (b := .append) (xs := #[.tmp 103, .tmp 112]) rfl ?_; refine app_four (w0 := w2) (s := .tmp 103) (x := .tmp 112) (v := .slice Ac ys.length cc) rfl rfl _ _ _ _ _ rfl rfl HR5.out HB25.out hs5 (by omega) ?_)
      intro v6 wd HRd HBd hsd
      have hzl : (ys ++ [1, 122, 192 + (xs1.length : Int) / 256, (xs1.length : Int) % 256]).length = ys.length + 4 := by simp
      have hzb : Byts (ys ++ [1, 122, 192 + (xs1.length : Int) / 256, (xs1.length : Int) % 256]) := by
        intro x hx
        rcases List.mem_append.1 hx with h | h
        · exact HYB.out x h
        · simp at h
          rcases h with rfl | rfl | rfl | rfl <;> omega
      obtain ⟨zs, hze⟩ : ∃ zs, ys ++ [1, 122, 192 + (xs1.length : Int) / 256, (xs1.length : Int) % 256] = zs := ⟨_, rfl⟩
      rw [hze] at HRd HPT hzl hzb
      have HZB := Kp.mk hzb
      have HZL := Kp.mk hzl
      clear hze hzb hzl
      obtain ⟨Ad, cd, rfl⟩ := Kd.R_slice HRd.out
      rw [HZL.out] at HRd ⊢
      have hcdm : cd ≤ 9223372036854775807 := M_cap (t := 5) ⟨_, rfl, HRd.out⟩
      have hcd := (R_C HRd.out).2
      have HSd := Kp.mk (HS2.out.step HBd.out)
      go_wp2_with (fail)
      have hrc := read_calls Ad cd zs (ys.length : Int) wd _ _ _ (by rw [HZL.out]; exact (R_C HRd.out).1) HZB.out (by rw [HZL.out]; exact hcd) hcdm HSd.out.env (by rw [HZL.out]; omega) (by omega) (by omega) HPT.out
      rw [HZL.out] at hrc
      refine gsie_ hrc HSd ?_
      clear hrc
      intro v7 w7 HM7 HB7 HS7
      obtain rfl := er_open_none (erK.K_of_M HM7.out)
      have hpk : zName p = if p = [] then [122] else 122 :: 46 :: p := rfl
      by_cases hp0 : p = []
      · rw [if_pos hp0] at hpk
        have bp : (mkB p).toList.isEmpty = true := by rw [hp0, ByteArray.toList_eq]; rfl
        rw [hpk]
        have e1 : (mkB [122]).toList = [122] := by rw [ByteArray.toList_eq]; rfl
        clear hpk hp0
        go_wp2_with (fail)
        refine b_ (awake12_calls _ HS7.out.env) HS7 ?_
        intro w8 HB8 HS8
        go_wp2
        go_ret
        exact ⟨rfl, HS8.out.below⟩
      · rw [if_neg hp0] at hpk
        have bp : (mkB p).toList.isEmpty = false := by rw [ByteArray.toList_eq]; simpa [mkB] using hp0
        rw [hpk]
        clear hpk hp0
        go_wp2_with (fail)
        refine b_ (awake12_calls _ HS7.out.env) HS7 ?_
        intro w8 HB8 HS8
        rw [cat_z]
        go_wp2
        go_ret
        exact ⟨rfl, HS8.out.below⟩
end Go.Proofs.YtimaliamidgflaaDoor
