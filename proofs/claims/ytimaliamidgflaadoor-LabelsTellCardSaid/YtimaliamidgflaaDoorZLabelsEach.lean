/-
  The law LabelsEach: with one pattern more all that stood for a name still do, in their order; the new one, just if it stands for it: the walk.
-/
import Derived.Test.YtimaliamidgflaaDoorGl
import Derived.Test.YtimaliamidgflaaDoorGn
import Derived.Test.YtimaliamidgflaaDoorGp
import Derived.Test.YtimaliamidgflaaDoorPlayN
import Derived.Test.YtimaliamidgflaaDoorRefL
import Derived.StillTailTactics
namespace Go.Proofs.YtimaliamidgflaaDoor
open Go.RowKit Go.Proofs.YtimaliamidgflaaDoorW.PrintWords Go.Proofs.YtimaliamidgflaaDoor.P
set_option linter.unusedVariables false
set_option linter.unusedSimpArgs false
set_option maxRecDepth 100000
set_option maxHeartbeats 1000000

def patN (xs : List PatT) (i : Nat) : PatT := xs.getD i (⟨#[]⟩, false, ((false, []), 0), 0)
def eachPs (xs : List PatT) (k : Nat) : List Pat := (List.range k).map fun i => ⟨pathOf (patN xs i).1.data.toList, (patN xs i).2.1, (i : Int)⟩
theorem each_snoc (xs : List PatT) (k : Nat) (s : ByteArray) (b : Bool) (id : Int) (h : ∃ net, xs[k]? = some (s, b, net, id)) : eachPs xs (k + 1) = eachPs xs k ++ [⟨pathOf s.data.toList, b, (k : Int)⟩] := by
  obtain ⟨net, h⟩ := h
  have e : patN xs k = (s, b, net, id) := by rw [patN, List.getD_eq_getElem?_getD, h]; rfl
  rw [eachPs, List.range_succ, List.map_append]
  simp only [List.map_cons, List.map_nil, e]
  rfl
theorem each_len (xs : List PatT) (k : Nat) : (eachPs xs k).length = k := by simp [eachPs]
theorem each_id (xs : List PatT) (k : Nat) : ∀ y ∈ eachPs xs k, y.id ≠ (k : Int) := by
  intro y hy
  rw [eachPs, List.mem_map] at hy
  obtain ⟨i, hi, rfl⟩ := hy
  have := List.mem_range.1 hi
  show ((i : Nat) : Int) ≠ _
  omega
theorem few_name (xs : List PatT) (h : fewB xs = true) (x : PatT) (hx : x ∈ xs) : x.1.size ≤ 2000 := by
  unfold fewB at h
  simp only [Bool.and_eq_true, decide_eq_true_eq] at h
  have key : ∀ l : List PatT, x ∈ l → x.1.size ≤ (l.map fun x => x.1.size).sum := by
    intro l
    induction l with
    | nil => intro h; cases h
    | cons y l ih =>
      intro hm
      simp only [List.map_cons, List.sum_cons]
      rcases List.mem_cons.1 hm with rfl | hm
      · omega
      · have := ih hm; omega
  have := key xs hx
  omega
theorem few_len (xs : List PatT) (h : fewB xs = true) : xs.length ≤ 40 := by
  unfold fewB at h
  simp only [Bool.and_eq_true, decide_eq_true_eq] at h
  exact h.1
theorem labelsEach_walk (w : World) (A0 : Option Addr) (n0 c0 : Nat) (xs : List PatT) (hC0 : patK.C w A0 n0 xs) (hc0 : n0 ≤ c0) (hm0 : c0 ≤ 9223372036854775807) (hx0 : ∀ x ∈ xs, x.1.size ≤ 140737488355328) (s1 : ByteArray) (h1 : s1.size ≤ 9223372036854775807) (b2 : Bool) (s3 : ByteArray) (h3 : s3.size ≤ 9223372036854775807) (hE : EnvM w) :
    Calls Tryd.prog 4 #[.slice A0 n0 c0, .string s1, .bool b2, .string s3] w fun e w' => e = .returned (.bool true) ∧ Below w.heap.size w w' := by
  have HE := Kp.mk hE
  have HS := Kp.mk (StM.start hE)
  clear hE
  obtain rfl := (C_len hC0).1
  have HC := Kp.mk hC0
  have HFC := Kp.mk (few_calls A0 xs.length c0 xs w hC0 hx0)
  clear hC0 hx0
  obtain ⟨m, hm⟩ : ∃ p, playN s1.data.toList = p := ⟨_, rfl⟩
  obtain ⟨q, hq⟩ : ∃ q, playN s3.data.toList = q := ⟨_, rfl⟩
  have hml : m.length ≤ 60 := by rw [← hm]; exact (playN_right _).2
  have hql : q.length ≤ 60 := by rw [← hq]; exact (playN_right _).2
  have hms : (mkB m).size ≤ 60 := hml
  have hqs : (mkB q).size ≤ 60 := hql
  have HP := Kp.mk (playname_calls s1)
  have HQ := Kp.mk (playname_calls s3)
  rw [hm] at HP
  rw [hq] at HQ
  clear hm hq
  cases hfew : fewB xs with
  | false =>
    rw [hfew] at HFC
    clear hfew
    go_enter Tryd.func4, Tryd.ntmps4
    go_wp2_with (fail)
    refine q_ HFC.out ?_
    go_wp2_with (fail)
    refine bM_ (awake20_calls _ HS.out.env) HS ?_
    intro w5 HB5 HS5
    go_wp2
    go_ret
    exact ⟨rfl, HS5.out.below⟩
  | true =>
    have hl40 := few_len xs hfew
    have HNM := Kp.mk (few_name xs hfew)
    rw [hfew] at HFC
    clear hfew
    go_enter Tryd.func4, Tryd.ntmps4
    go_wp2_with (fail)
    refine q_ HFC.out ?_
    go_wp2_with (fail)
    refine bM_ (HP.out _ h1) HS ?_
    intro w1 HB1 HS1
    go_wp2_with (fail)
    refine bM_ (HQ.out _ h3) HS1 ?_
    intro w2 HB2 HS2
    clear HFC HP HQ HB1 HB2
    go_wp2_with (fail)
    refine newT_ HS2 ?_
    intro tx w3 HB3 HS3 HX3
    go_wp2_with (fail)
    refine newT_ HS3 ?_
    intro ty w4 HB4 HS4 HY4
    have HX4 := Kp.mk (HX3.out.step HB4.out)
    go_wp2_with (fail)
    refine bM_ (awake20_calls _ HS4.out.env) HS4 ?_
    intro w5 HB5 HS5
    have HX5 := Kp.mk (HX4.out.step HB5.out)
    have HY5 := Kp.mk (HY4.out.step HB5.out)
    clear HX3 HX4 HY4 HB3 HB4 HB5
    go_wp2_with (fail)
    go_loopw [11] (fun i wr => ∃ (k : Nat) (Sx Sy : Nat → Prop), k ≤ xs.length ∧ i = .int .i64 (k : Int) ∧ Kp (Tb w wr Sx w2.heap.size (10001 * k) tx (eachPs xs k)) ∧ Kp (Tb w wr Sy w3.heap.size (10001 * k) ty (eachPs xs k)) ∧ Kp (StM w wr) ∧ Kp (∀ z, Sx z → ¬ Sy z)) (fun i _ => xs.length - (intOf i).toNat)
    case atStart => exact ⟨0, _, _, Nat.zero_le _, rfl, HX5, HY5, HS5, ⟨fun z h1 h2 => by have := h1.2; have := h2.1; omega⟩⟩
    case round =>
      clear HX5 HY5
      obtain ⟨k, Sx, Sy, hk, rfl, HX, HY, HSX, HD⟩ := hrel
      have hxl : (eachPs xs k).length ≤ 40 := by rw [each_len]; omega
      by_cases hlt : k < xs.length
      · obtain ⟨ad, s, b, id, rfl, hg, cw0, cw1, -⟩ := at_pat HC.out k hlt
        have cc0 := pw_cell_below HSX.out.below cw0
        have cc1 := pw_cell_below HSX.out.below cw1
        have CW0 := Kp.mk cw0
        have CW1 := Kp.mk cw1
        clear cw0 cw1
        have hss : s.size ≤ 2000 := by
          obtain ⟨net, hg⟩ := hg
          exact HNM.out _ (List.mem_of_getElem? hg)
        have HSN := Kp.mk (each_snoc xs k s b id hg)
        have HXd := Kp.mk (HX.out.step (below_drew (Below.refl _ _)))
        have HYd := Kp.mk (HY.out.step (below_drew (Below.refl _ _)))
        have HSd := Kp.mk (HSX.out.step (below_drew (Below.refl _ _)))
        clear hg HX HY HSX
        go_wp2_with (fail)
        go_still_tail 12, (by kernel_rfl)
        go_wp2_with (fail)
        refine addT_ HXd HSd HE s b (k : Int) (by omega) (by omega) (by omega) ?_
        intro S7 w7 HX7 HS7 HK7 HF7 hz7
        rw [← HSN.out] at HX7
        have HY7 := Kp.mk (HYd.out.same hz7.out (fun z hz hs => HK7.out z hz (fun hx => HD.out z hx hs)))
        have HB7 := Kp.mk (HS7.out.below)
        have HD7 : Kp (∀ z, S7 z → ¬ Sy z) := ⟨fun z hs hy => by
          rcases HF7.out z hs with h | h
          · exact HD.out z h hy
          · have := HYd.out.lt z hy
            omega⟩
        have dd0 := pw_cell_below HB7.out CW0.out
        have dd1 := pw_cell_below HB7.out CW1.out
        have HYd7 := Kp.mk (HY7.out.step (below_drew (Below.refl _ _)))
        have HXd7 := Kp.mk (HX7.out.step (below_drew (Below.refl _ _)))
        have HSd7 := Kp.mk (HS7.out.step (below_drew (Below.refl _ _)))
        clear HX7 HY7 HS7 HK7 HF7 hz7 HXd HYd HSd cc0 cc1 HD
        go_wp2_with (fail)
        go_still_tail 12, (by kernel_rfl)
        go_wp2_with (fail)
        refine addT_ HYd7 HSd7 HE s b (k : Int) (by omega) (by omega) (by omega) ?_
        intro S8 w8 HY8 HS8 HK8 HF8 hz8
        rw [← HSN.out] at HY8
        have HX8 := Kp.mk (HXd7.out.same hz8.out (fun z hz hs => HK8.out z hz (fun hy => HD7.out z hs hy)))
        have HD8 : Kp (∀ z, S7 z → ¬ S8 z) := ⟨fun z hs hy => by
          rcases HF8.out z hy with h | h
          · exact HD7.out z hs h
          · have := HXd7.out.lt z hs
            omega⟩
        clear HYd7 HXd7 HSd7 HK8 HF8 hz8 HD7 HSN
        go_wp2
        exact ⟨⟨k + 1, S7, S8, by omega, by go_num, HX8, HY8, HS8, HD8⟩, by simp [intOf]; omega⟩
      · obtain rfl : k = xs.length := by omega
        go_wp2_with (fail)
        refine addT_ HY HSX HE (mkB m) b2 (xs.length : Int) (by omega) (by omega) (by omega) ?_
        intro S7 w7 HY7 HS7 HK7 HF7 hz7
        rw [mkB_toList] at HY7
        have HX7 := Kp.mk (HX.out.same hz7.out (fun z hz hs => HK7.out z hz (fun hy => HD.out z hs hy)))
        have hlen : (eachPs xs xs.length ++ [(⟨pathOf m, b2, (xs.length : Int)⟩ : Pat)]).length ≤ 41 := by rw [List.length_append, each_len]; simp; omega
        have hpq : (pathOf q).length ≤ 61 := by
          have h1 := labels_few q
          rw [pathOf, List.length_reverse]
          omega
        clear HX HY HSX HD HK7 HF7 hz7
        go_wp2_with (fail)
        refine matchT_ HX7 HS7 (mkB q) (by omega) (by omega) ?_
        intro Aa ca w8 hca HCa HB8 HS8
        have HY8 := Kp.mk (HY7.out.step HB8.out)
        rw [mkB_toList] at *
        clear HX7 HY7 HS7
        have hfl := match_filter (eachPs xs xs.length) ⟨pathOf m, b2, (xs.length : Int)⟩ (pathOf q) (each_id xs xs.length)
        have hlt2 := each_more (eachPs xs xs.length) m q b2 (xs.length : Int)
        have hbl := match_le (eachPs xs xs.length ++ [⟨pathOf m, b2, (xs.length : Int)⟩]) (pathOf q)
        obtain ⟨al, has⟩ : ∃ al, matchF (eachPs xs xs.length) (pathOf q) = al := ⟨_, rfl⟩
        rw [has] at hfl hlt2 HCa hca ⊢
        go_wp2_with (fail)
        refine matchT_ HY8 HS8 (mkB q) (by omega) (by omega) ?_
        intro Ab cb w9 hcb HCb HB9 HS9
        rw [mkB_toList] at *
        have HCa9 := Kp.mk (Kd.C_below HCa.out HB9.out)
        obtain ⟨bs, hbs⟩ : ∃ bs, matchF (eachPs xs xs.length ++ [⟨pathOf m, b2, (xs.length : Int)⟩]) (pathOf q) = bs := ⟨_, rfl⟩
        rw [hbs] at hfl hlt2 HCb hcb hbl ⊢
        have hbsl : bs.length ≤ 2542 := Nat.le_trans hbl (Nat.le_trans (Nat.mul_le_mul (show (pathOf q).length + 1 ≤ 62 by omega) hlen) (show 62 * 41 ≤ 2542 by decide))
        have HFL := Kp.mk hfl
        have HLT := Kp.mk hlt2
        clear hfl hlt2 hbl has hbs HCa HY8 HS8 HB8 HB9 hlen hpq
        go_wp2_with (fail)
        go_loopw [14, 15] (fun v i wr => ∃ (k : Nat) (rs : List Int) (A : Option Addr) (c : Nat), k ≤ bs.length ∧ i = .int .i64 (k : Int) ∧ v = .slice A rs.length c ∧ rs.length ≤ k ∧ Kp ((bs.take k).filter (fun i => !(i == (xs.length : Int))) = rs) ∧ Kp ((Kd.int .i64).R 3 wr w9.heap.size (fun _ => True) (.slice A rs.length c) rs) ∧ Kp (Below w9.heap.size w9 wr)) (fun _ i _ => bs.length - (intOf i).toNat)
        case atStart => exact ⟨0, [], none, 0, Nat.zero_le _, rfl, rfl, Nat.le_refl _, ⟨rfl⟩, ⟨Kd.R_nil _ _ _ _ _⟩, ⟨Below.refl _ _⟩⟩
        case round =>
          obtain ⟨k, rs, A, c, hk, rfl, rfl, hrl, HRS, HR, HW⟩ := hrel
          have hsz9 : w9.heap.size ≤ wr.heap.size := HW.out.size
          by_cases hkl : k < bs.length
          · obtain ⟨adb, rfl, hcell⟩ := at_nat (Kd.C_below HCb.out HW.out) k hkl
            have hst := filt_snoc bs (fun i => !(i == (xs.length : Int))) k hkl
            obtain ⟨x, hx⟩ : ∃ x, bs.getD k 0 = x := ⟨_, rfl⟩
            rw [hx] at hcell hst
            rw [HRS.out] at hst
            clear hx
            by_cases hxn : x = (xs.length : Int)
            · subst hxn
              have HST : Kp ((bs.take (k + 1)).filter (fun i => !(i == (xs.length : Int))) = rs) := ⟨by rw [hst]; simp⟩
              clear hst
              go_wp2
              exact ⟨⟨k + 1, rs, A, c, by omega, by go_num, rfl, by omega, HST, HR, HW⟩, by simp [intOf]; omega⟩
            · have bx : (x == (xs.length : Int)) = false := by simpa using hxn
              have HST : Kp ((bs.take (k + 1)).filter (fun i => !(i == (xs.length : Int))) = rs ++ [x]) := ⟨by rw [hst]; simp [bx]⟩
              clear hst
              go_wp2_with (at_builtin; with_reducible refine gate_builtin (b := .append) (xs := #[.tmp 94, .tmp 99]) rfl ?_; go_must (refine app_int (w0 := w9) (base := w9.heap.size) (s := .tmp 94) (x := .tmp 99) (v := .slice A rs.length c) rfl rfl rs x rfl rfl HR.out HW.out hsz9 (by omega) ?_))
              intro v5 w5 HR5 HB5 hs5
              obtain ⟨A5, c5, rfl⟩ := Kd.R_slice HR5.out
              go_wp2
              exact ⟨⟨k + 1, rs ++ [x], A5, c5, by omega, by go_num, rfl, by simp; omega, HST, HR5, HB5⟩, by simp [intOf]; omega⟩
          · obtain rfl : k = bs.length := by omega
            rw [List.take_length, HFL.out] at HRS
            obtain rfl := HRS.out
            have HCr := Kp.mk (R_C HR.out).1
            have HCa10 := Kp.mk (Kd.C_below HCa9.out HW.out)
            have HS10 := Kp.mk (HS9.out.step HW.out)
            clear HR HRS HFL HW HCa9 hkl
            by_cases hqm : q = m
            · subst hqm
              have hv := HLT.out
              cases b2 with
              | false =>
                have bl : decide (al.length < bs.length) = true := by simpa using hv
                clear hv HLT
                go_wp2_with (fail)
                refine bM_ (plaini_calls _ _ _ _ _ _ al _ HCr.out HCa10.out) HS10 ?_
                intro w11 HB11 HS11
                go_wp2
                go_ret
                first | exact ⟨rfl, HS11.out.below⟩ | (rw [bl]; exact ⟨rfl, HS11.out.below⟩)
              | true =>
                have bl : decide (al.length < bs.length) = false := by simpa using hv
                clear hv HLT
                go_wp2_with (fail)
                refine bM_ (plaini_calls _ _ _ _ _ _ al _ HCr.out HCa10.out) HS10 ?_
                intro w11 HB11 HS11
                go_wp2
                go_ret
                first | exact ⟨rfl, HS11.out.below⟩ | (rw [bl]; exact ⟨rfl, HS11.out.below⟩)
            · have bqm : ((mkB q).toList == (mkB m).toList) = false := by
                rw [ByteArray.toList_eq, ByteArray.toList_eq]
                simpa [mkB] using hqm
              have hv := HLT.out
              cases b2 with
              | false =>
                have bl : decide (al.length < bs.length) = false := by simpa [hqm] using hv
                clear hv HLT
                go_wp2_with (fail)
                refine bM_ (plaini_calls _ _ _ _ _ _ al _ HCr.out HCa10.out) HS10 ?_
                intro w11 HB11 HS11
                go_wp2
                go_ret
                first | exact ⟨rfl, HS11.out.below⟩ | (rw [bl]; exact ⟨rfl, HS11.out.below⟩)
              | true =>
                obtain ⟨u, hu⟩ : ∃ u, underL q m = u := ⟨_, rfl⟩
                have bl : decide (al.length < bs.length) = u := by rw [← hu]; simpa [hqm] using hv
                have HU := Kp.mk (fun w => stockaderef12_Under.calls (mkB q) (mkB m) _ w (ref_under (mkB q) (mkB m) (by omega) (by omega)))
                rw [mkB_toList, mkB_toList, hu] at HU
                clear hv HLT hu
                go_wp2_with (fail)
                refine (HU.out _).mono ?_
                rintro e11 w11 ⟨rfl, hd⟩
                have HS11 := Kp.mk (HS10.out.step hd.below)
                have HCr11 := Kp.mk (Kd.C_below HCr.out hd.below)
                have HCa11 := Kp.mk (Kd.C_below HCa10.out hd.below)
                clear hd HU
                go_wp2_with (fail)
                refine bM_ (plaini_calls _ _ _ _ _ _ al _ HCr11.out HCa11.out) HS11 ?_
                intro w12 HB12 HS12
                cases u <;>
                  go_wp2 <;>
                  go_ret <;>
                  first | exact ⟨rfl, HS12.out.below⟩ | (rw [bl]; exact ⟨rfl, HS12.out.below⟩)
end Go.Proofs.YtimaliamidgflaaDoor
