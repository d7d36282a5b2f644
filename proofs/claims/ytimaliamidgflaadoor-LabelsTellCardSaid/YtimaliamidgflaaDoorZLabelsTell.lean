/-
  The law LabelsTell: of any patterns, which stand for any names, and in which order: the walk.
-/
import Derived.Test.YtimaliamidgflaaDoorGl
import Derived.Test.YtimaliamidgflaaDoorGn
import Derived.Test.YtimaliamidgflaaDoorZLabelsEach
import Derived.Deep.RegionHeld3
import Derived.StillTailTactics
namespace Go.Proofs.YtimaliamidgflaaDoor
open Go.RowKit Go.Proofs.YtimaliamidgflaaDoorW.PrintWords Go.Proofs.YtimaliamidgflaaDoor.P
set_option linter.unusedVariables false
set_option linter.unusedSimpArgs false
set_option maxRecDepth 100000
set_option maxHeartbeats 1000000

theorem labelsTell_walk (w : World) (A0 : Option Addr) (n0 c0 : Nat) (xs : List PatT) (hC0 : patK.C w A0 n0 xs) (hc0 : n0 ≤ c0) (hm0 : c0 ≤ 9223372036854775807) (hx0 : ∀ x ∈ xs, x.1.size ≤ 140737488355328)
    (A1 : Option Addr) (n1 c1 : Nat) (ns : List ByteArray) (hC1 : Kd.string.C w A1 n1 ns) (hc1 : n1 ≤ c1) (hm1 : c1 ≤ 9223372036854775807) (hx1 : ∀ x ∈ ns, x.size ≤ 140737488355328) (hE : EnvM w) :
    Calls Tryd.prog 3 #[.slice A0 n0 c0, .slice A1 n1 c1] w fun e w' => e = .returned (.bool true) ∧ Below w.heap.size w w' := by
  have HE := Kp.mk hE
  have HS := Kp.mk (StM.start hE)
  clear hE
  obtain rfl := (C_len hC0).1
  obtain rfl := (C_len hC1).1
  have HC := Kp.mk hC0
  have HCN := Kp.mk hC1
  have HX0 := Kp.mk hx0
  clear hC0 hx0 hC1 hx1
  cases hfew : fewB xs with
  | false =>
    have HFW := Kp.mk hfew
    clear hfew
    go_enter Tryd.func3, Tryd.ntmps3
    go_wp2_with (fail)
    refine newT_ HS ?_
    intro tb w1 HB1 HS1 HT1
    go_wp2_with (fail)
    refine bM_ (awake20_calls _ HS1.out.env) HS1 ?_
    intro w2 HB2 HS2
    have HF := Kp.mk (few_calls A0 xs.length c0 xs w2 (Kd.C_below HC.out HS2.out.below) HX0.out)
    rw [HFW.out] at HF
    go_wp2_with (fail)
    refine q_ HF.out ?_
    go_wp2_with (fail)
    refine bM_ (awake20_calls _ HS2.out.env) HS2 ?_
    intro w3 HB3 HS3
    go_wp2
    go_ret
    exact ⟨rfl, HS3.out.below⟩
  | true =>
    have hl40 := few_len xs hfew
    have HNM := Kp.mk (few_name xs hfew)
    have HFW := Kp.mk hfew
    clear hfew
    go_enter Tryd.func3, Tryd.ntmps3
    go_wp2_with (fail)
    refine newT_ HS ?_
    intro tb w1 HB1 HS1 HT1
    go_wp2_with (fail)
    refine bM_ (awake20_calls _ HS1.out.env) HS1 ?_
    intro w2 HB2 HS2
    have HT2 := Kp.mk (HT1.out.step HB2.out)
    have HF := Kp.mk (few_calls A0 xs.length c0 xs w2 (Kd.C_below HC.out HS2.out.below) HX0.out)
    rw [HFW.out] at HF
    go_wp2_with (fail)
    refine q_ HF.out ?_
    clear HF HFW HT1 HB1 HB2
    go_wp2_with (fail)
    go_loopw [6] (fun i wr => ∃ (k : Nat) (S : Nat → Prop), k ≤ xs.length ∧ i = .int .i64 (k : Int) ∧ Kp (Tb w wr S w.heap.size (10001 * k) tb (tellPs (xs.take k))) ∧ Kp (StM w wr)) (fun i _ => xs.length - (intOf i).toNat)
    case atStart => exact ⟨0, _, Nat.zero_le _, rfl, HT2, HS2⟩
    case round =>
      clear HT2
      obtain ⟨k, S, hk, rfl, HT, HSX⟩ := hrel
      by_cases hlt : k < xs.length
      · obtain ⟨ad, s, b, id, rfl, hg, cw0, cw1, cw2⟩ := at_pat HC.out k hlt
        have cc0 := pw_cell_below HSX.out.below cw0
        have cc1 := pw_cell_below HSX.out.below cw1
        have cc2 := pw_cell_below HSX.out.below cw2
        have hss : s.size ≤ 2000 := by
          obtain ⟨net, hg⟩ := hg
          exact HNM.out _ (List.mem_of_getElem? hg)
        have HSN := Kp.mk (tell_snoc xs k s b id hg)
        have htl := tell_len xs k
        have HTd := Kp.mk (HT.out.step (below_drew (Below.refl _ _)))
        have HSd := Kp.mk (HSX.out.step (below_drew (Below.refl _ _)))
        clear hg HT HSX cw0 cw1 cw2
        go_wp2_with (fail)
        go_still_tail 16, (by kernel_rfl)
        go_wp2_with (fail)
        refine addT_ HTd HSd HE s b id (by omega) (by omega) (by omega) ?_
        intro S7 w7 HT7 HS7 HK7 HF7 hz7
        rw [← HSN.out] at HT7
        clear HK7 HF7 hz7 HTd HSd HSN cc0 cc1 cc2
        go_wp2
        exact ⟨⟨k + 1, S7, by omega, by go_num, HT7, HS7⟩, by simp [intOf]; omega⟩
      · obtain rfl : k = xs.length := by omega
        rw [List.take_length] at HT
        have htl : (tellPs xs).length = xs.length := by simp [tellPs]
        have HTL := Kp.mk htl
        have ht40 : (tellPs xs).length ≤ 40 := by omega
        clear htl
        go_wp2_with (fail)
        go_loopw [7] (fun i wx => ∃ (k : Nat), k ≤ ns.length ∧ i = .int .i64 (k : Int) ∧ Kp (Tb w wx S w.heap.size (10001 * xs.length) tb (tellPs xs)) ∧ Kp (StM w wx)) (fun i _ => ns.length - (intOf i).toNat)
        case atStart => exact ⟨0, Nat.zero_le _, rfl, HT, HSX⟩
        case round =>
          clear HT HSX hlt hk
          obtain ⟨k, hk, rfl, HT, HSX⟩ := hrel
          by_cases hlt : k < ns.length
          · by_cases h20 : k < 20
            · obtain ⟨ad, rfl, cw⟩ := at_natS HCN.out k hlt
              obtain ⟨nm, hnm⟩ : ∃ nm, ns.getD k ByteArray.empty = nm := ⟨_, rfl⟩
              rw [hnm] at cw
              have cc := pw_cell_below HSX.out.below cw
              have CW := Kp.mk cw
              clear cw hnm
              by_cases h300 : nm.size ≤ 300
              · have HTd := Kp.mk (HT.out.step (below_drew (Below.refl _ _)))
                have HSd := Kp.mk (HSX.out.step (below_drew (Below.refl _ _)))
                obtain ⟨al, hal⟩ : ∃ al, matchF (tellPs xs) (pathOf nm.data.toList) = al := ⟨_, rfl⟩
                have H1 := Kp.mk (match_calls tb _ _ (tellPs xs) nm wr.drew HTd.out.trie.at_ HSd.out.env (by omega) (by omega))
                have H2 := Kp.mk (fun W (hW : Below w.heap.size w W) => mname_calls A0 xs.length c0 xs nm W (Kd.C_below HC.out hW) hl40 HNM.out h300)
                rw [hal] at H1 H2
                have HAL := Kp.mk hal
                clear hal
                have b300 : decide ((nm.size : Int) ≤ 300) = true := by simp; omega
                have b301 : decide (nm.size ≤ 300) = true := by simp; omega
                go_wp2_with (fail)
                go_region_held3 (fun w' => w'.cell? (ad.add k) = some (.string nm)) (first | go_keep | exact pw_cell_below HWc.out CW.out | exact pw_cell_below HWb.out CW.out | exact pw_cell_below HWa.out CW.out)
                  (first
                    | (go_at_call 19; refine H1.out.mono ?_; rintro e1 wa ⟨va, rfl, hma, hba⟩; obtain ⟨Aa, ca, rfl, hca, hCa⟩ := slice_open (intsK.K_of_M hma); have HCa := Kp.mk hCa; have HBa := Kp.mk hba; have HWa := Kp.mk (below_step HSd.out.below hba); clear hma hba hCa)
                    | (go_at_call 20; refine (H2.out _ HWa.out).mono ?_; rintro e2 wb ⟨vb, rfl, hmb, hbb⟩; obtain ⟨Ab, cb, rfl, hcb, hCb⟩ := slice_open (intsK.K_of_M hmb); have HCb := Kp.mk hCb; have HCa2 := Kp.mk (Kd.C_below HCa.out hbb); have HBb := Kp.mk hbb; have HWb := Kp.mk (below_step HWa.out hbb); clear hmb hbb hCb)
                    | (go_at_call 18; refine (plaini_calls _ _ _ _ _ _ al _ HCa2.out HCb.out).mono ?_; rintro e3 wc ⟨rfl, hbc⟩; have HBc := Kp.mk hbc; have HWc := Kp.mk (below_step HWb.out hbc); clear hbc))
                have HT3 := Kp.mk (((HTd.out.step HBa.out).step HBb.out).step HBc.out)
                have HS3 := Kp.mk (((HSd.out.step HBa.out).step HBb.out).step HBc.out)
                clear H1 H2 HAL HCa HCa2 HCb HTd HSd HBa HBb HBc HWa HWb HWc
                go_wp2
                exact ⟨⟨k + 1, by omega, by go_num, HT3, HS3⟩, by simp [intOf]; omega⟩
              · have b300 : decide ((nm.size : Int) ≤ 300) = false := by simp; omega
                have b301 : decide (nm.size ≤ 300) = false := by simp; omega
                have HTd := Kp.mk (HT.out.step (below_drew (Below.refl _ _)))
                have HSd := Kp.mk (HSX.out.step (below_drew (Below.refl _ _)))
                go_wp2_with (fail)
                go_region
                go_wp2
                exact ⟨⟨k + 1, by omega, by go_num, HTd, HSd⟩, by simp [intOf]; omega⟩
            · go_wp2_with (fail)
              refine q_ (len_calls tb _ _ _ _ HT.out.trie.at_) ?_
              rw [HTL.out]
              go_wp2
              go_ret
              exact ⟨rfl, HSX.out.below⟩
          · go_wp2_with (fail)
            refine q_ (len_calls tb _ _ _ _ HT.out.trie.at_) ?_
            rw [HTL.out]
            go_wp2
            go_ret
            exact ⟨rfl, HSX.out.below⟩
end Go.Proofs.YtimaliamidgflaaDoor
