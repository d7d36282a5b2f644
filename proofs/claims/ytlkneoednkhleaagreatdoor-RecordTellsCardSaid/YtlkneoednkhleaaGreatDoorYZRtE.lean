/-
  The document's answers for records: WriteQuestion, by its contract.
-/
import Derived.Test.YtlkneoednkhleaaGreatDoorYZRtD
import Derived.Test.YtlkneoednkhleaaGreatDoorYGs
namespace Go.Proofs.YtlkneoednkhleaaGreatDoor
open Go.RowKit Go.Proofs.YtlkneoednkhleaaGreatDoorW.PrintWords Go.Proofs.YtlkneoednkhleaaGreatDoor.P
set_option linter.unusedVariables false
set_option linter.unusedSimpArgs false
set_option maxRecDepth 100000
set_option maxHeartbeats 1000000

section
variable {f : FuncId} {args : Array Value} {w0 W : World} {Q : Ending → World → Prop}
theorem tb_ {xs : List Int} (H : Calls Tryz.prog f args W (GivesB xs W)) (HB : Kp (Below w0.heap.size w0 W))
    (h : ∀ A c w1, xs.length ≤ c → Kp ((Kd.int .u8).C w1 A xs.length xs) → Kp ((Kd.int .u8).R 5 w1 W.heap.size (fun _ => True) (.slice A xs.length c) xs) → Kp (Below W.heap.size W w1) → Kp (Below w0.heap.size w0 w1) → Q (.returned (.slice A xs.length c)) w1) : Calls Tryz.prog f args W Q := by
  refine H.mono ?_
  rintro e w1 ⟨v, rfl, hm, hb⟩
  obtain ⟨A, c, rfl⟩ := Kd.R_slice hm
  obtain ⟨hC, hc⟩ := R_C hm
  exact h A c w1 hc ⟨hC⟩ ⟨hm⟩ ⟨hb⟩ ⟨below_step HB.out hb⟩
theorem tw_ {xs : List Int} {x : Er} {u : Value} (H : Calls Tryz.prog f args W (GivesT xs x W)) (hu : failV x = u) (HB : Kp (Below w0.heap.size w0 W))
    (h : ∀ A c w1, xs.length ≤ c → Kp ((Kd.int .u8).C w1 A xs.length xs) → Kp ((Kd.int .u8).R 5 w1 W.heap.size (fun _ => True) (.slice A xs.length c) xs) → Kp (Below W.heap.size W w1) → Kp (Below w0.heap.size w0 w1) → Q (.returned (.tuple #[.slice A xs.length c, u])) w1) : Calls Tryz.prog f args W Q := by
  refine H.mono ?_
  rintro e w1 ⟨v, rfl, hm, hb⟩
  obtain ⟨A, c, rfl⟩ := Kd.R_slice hm
  obtain ⟨hC, hc⟩ := R_C hm
  rw [hu]
  exact h A c w1 hc ⟨hC⟩ ⟨hm⟩ ⟨hb⟩ ⟨below_step HB.out hb⟩
end
theorem rwriteB_good (l : L) (w : World) (hs : l.length ≤ 8100) (hr : rightL l = true) : Calls Tryz.prog 37 #[.string (mkB l)] w (GivesT (nameW l) .none w) := rwrite_good (mkB l) w (by rw [mkB_size]; omega) hr
theorem rwriteB_bad (l : L) (w : World) (hs : l.length ≤ 8100) (hr : rightL l = false) : Calls Tryz.prog 37 #[.string (mkB l)] w (GivesT [] (.code 13) w) := rwrite_bad (mkB l) w (by rw [mkB_size]; omega) hr
theorem rwq_bad (q : Qu) (w : World) (hs : q.name.length ≤ 8100) (hq : q.right = false) : Calls Tryz.prog 18 #[.agg #[.string (mkB q.name), .int .i64 q.typ, .int .i64 q.cls]] w (GivesT [] (.code 1) w) := by
  obtain ⟨qn, qt, qc⟩ := q
  dsimp only at hs ⊢
  have Hg := Kp.mk (heap_new w (.cells #[.string (mkB qn), .int .i64 qt, .int .i64 qc] 30))
  have HB0 := Kp.mk ((Below.refl w.heap.size w).alloc (Nat.le_refl _) (.cells #[.string (mkB qn), .int .i64 qt, .int .i64 qc] 30))
  have HF : Kp (((w.alloc (.cells #[.string (mkB qn), .int .i64 qt, .int .i64 qc] 30)).alloc (.cells #[.int .i64 0, .int .i64 0, .bool false] 38)).heap[w.heap.size + 1]? = some (.cells #[.int .i64 0, .int .i64 0, .bool false] 38 (0, 0))) := ⟨by
    rw [show w.heap.size + 1 = (w.alloc (.cells #[.string (mkB qn), .int .i64 qt, .int .i64 qc] 30)).heap.size by simp]; exact heap_new _ _⟩
  have HS := Kp.mk (HB0.out.alloc HB0.out.size (.cells #[.int .i64 0, .int .i64 0, .bool false] 38))
  have Hg0 : Kp (((w.alloc (.cells #[.string (mkB qn), .int .i64 qt, .int .i64 qc] 30)).alloc (.cells #[.int .i64 0, .int .i64 0, .bool false] 38)).heap[w.heap.size]? = some (.cells #[.string (mkB qn), .int .i64 qt, .int .i64 qc] 30 (0, 0))) := ⟨(((Below.refl _ _).alloc (Nat.le_refl _) _).block _ (heap_lt Hg.out)).trans Hg.out⟩
  have HQ := Kp.mk hq
  clear hq Hg HB0
  have hrq : Qu.right ⟨qn, qt, qc⟩ = (rightL qn && (within qt && within qc)) := rfl
  have HRQ := Kp.mk hrq
  clear hrq
  by_cases hn : rightL qn = true
  · have HN := Kp.mk hn
    clear hn
    go_enter Tryz.func18, Tryz.ntmps18
    go_wp2_with (fail)
    have c0 := blk_cell Hg0.out 0
    go_wp2_with (fail)
    refine tw_ (rwriteB_good qn _ hs HN.out) (u := .agg #[.int .i64 0, .int .i64 0, .bool false]) rfl HS ?_
    intro A1 c1 w1 hc1 HC1 HM1 HB1 HS1
    have Hg1 := Kp.mk ((HB1.out.block _ (heap_lt Hg0.out)).trans Hg0.out)
    have HF1 := Kp.mk ((HB1.out.block _ (heap_lt HF.out)).trans HF.out)
    have HS1a := Kp.mk (HS1.out.alloc HS1.out.size (.cells #[.int .i64 0, .int .i64 0, .bool false] 38))
    have hz1 := HS1.out.size
    clear c0
    go_wp2_with (with_reducible refine st_blk (w0 := w) (base := w.heap.size) rfl 38 (.tmp 5) (.tmp 11) rfl rfl w1.heap.size _ rfl rfl ⟨heap_new _ _⟩ (by kernel_rfl) (by kernel_rfl) (by kernel_rfl) HS1a hz1 ?_)
    intro w2 Hf2 HO2 HS2 hs2
    have HN2 := Kp.mk (stored_new HS1.out HS2.out hs2 HO2.out)
    have Hg2 := Kp.mk ((HN2.out.block _ (heap_lt Hg1.out)).trans Hg1.out)
    have HF2 := Kp.mk ((HN2.out.block _ (heap_lt HF1.out)).trans HF1.out)
    clear hs2
    have f0 := blk_cell Hf2.out 0
    have d1 := blk_cell Hg2.out 1
    obtain ⟨b1, hb1⟩ : ∃ b, within qt = b := ⟨_, rfl⟩
    have HW1 := Kp.mk hb1
    clear hb1
    go_wp2_with (fail)
    refine t_ (rtwo_calls qt _) HS2 ?_
    intro w3 HB3 HS3
    have Hg3 := Kp.mk ((HB3.out.block _ (heap_lt Hg2.out)).trans Hg2.out)
    have HF3 := Kp.mk ((HB3.out.block _ (heap_lt HF2.out)).trans HF2.out)
    rw [HW1.out]
    clear f0 d1
    cases b1
    · go_wp2_with (fail)
      refine (stockadehelp_Bare.calls 1 1 0 false _ rfl).mono ?_
      rintro e w4 ⟨rfl, hb⟩
      have HF4 := Kp.mk ((hb.block _ (heap_lt HF3.out)).trans HF3.out)
      have HS4 := Kp.mk (below_step HS3.out hb)
      go_wp2_with (with_reducible refine st_blk (w0 := w) (base := w.heap.size) rfl 38 (.tmp 3) (.tmp 27) rfl rfl (w.heap.size + 1) _ rfl rfl HF4 (by kernel_rfl) (by kernel_rfl) (by kernel_rfl) HS4 (Nat.le_succ _) ?_)
      intro w5 Hf5 HO5 HS5 hs5
      go_wp2
      refine bodyPost_ret (results_tc rfl _ _ (w.heap.size + 1) 38 #[.int .i64 1, .int .i64 0, .bool false] (0, 0) _ rfl Hf5.out Tryz.underlying38 rfl (by kernel_rfl)) rfl ?_
      exact ⟨_, rfl, Kd.R_nil _ _ _ _ _, HS5.out⟩
    · have d2 := blk_cell Hg3.out 2
      go_wp2_with (fail)
      refine t_ (rtwo_calls qc _) HS3 ?_
      intro w4 HB4 HS4
      have HF4 := Kp.mk ((HB4.out.block _ (heap_lt HF3.out)).trans HF3.out)
      have hb2 : within qc = false := by
        have := HQ.out
        rw [HRQ.out, HN.out, HW1.out] at this
        simpa using this
      rw [hb2]
      clear d2 hb2
      go_wp2_with (fail)
      refine (stockadehelp_Bare.calls 1 1 0 false _ rfl).mono ?_
      rintro e w5 ⟨rfl, hb⟩
      have HF5 := Kp.mk ((hb.block _ (heap_lt HF4.out)).trans HF4.out)
      have HS5 := Kp.mk (below_step HS4.out hb)
      go_wp2_with (with_reducible refine st_blk (w0 := w) (base := w.heap.size) rfl 38 (.tmp 3) (.tmp 27) rfl rfl (w.heap.size + 1) _ rfl rfl HF5 (by kernel_rfl) (by kernel_rfl) (by kernel_rfl) HS5 (Nat.le_succ _) ?_)
      intro w6 Hf6 HO6 HS6 hs6
      go_wp2
      refine bodyPost_ret (results_tc rfl _ _ (w.heap.size + 1) 38 #[.int .i64 1, .int .i64 0, .bool false] (0, 0) _ rfl Hf6.out Tryz.underlying38 rfl (by kernel_rfl)) rfl ?_
      exact ⟨_, rfl, Kd.R_nil _ _ _ _ _, HS6.out⟩
  · have hn' : rightL qn = false := by simpa using hn
    have HN := Kp.mk hn'
    clear hn hn'
    go_enter Tryz.func18, Tryz.ntmps18
    go_wp2_with (fail)
    have c0 := blk_cell Hg0.out 0
    go_wp2_with (fail)
    refine tw_ (rwriteB_bad qn _ hs HN.out) (u := .agg #[.int .i64 13, .int .i64 0, .bool false]) rfl HS ?_
    intro A1 c1 w1 hc1 HC1 HM1 HB1 HS1
    have Hg1 := Kp.mk ((HB1.out.block _ (heap_lt Hg0.out)).trans Hg0.out)
    have HF1 := Kp.mk ((HB1.out.block _ (heap_lt HF.out)).trans HF.out)
    have HS1a := Kp.mk (HS1.out.alloc HS1.out.size (.cells #[.int .i64 0, .int .i64 0, .bool false] 38))
    have hz1 := HS1.out.size
    clear c0
    go_wp2_with (with_reducible refine st_blk (w0 := w) (base := w.heap.size) rfl 38 (.tmp 5) (.tmp 11) rfl rfl w1.heap.size _ rfl rfl ⟨heap_new _ _⟩ (by kernel_rfl) (by kernel_rfl) (by kernel_rfl) HS1a hz1 ?_)
    intro w2 Hf2 HO2 HS2 hs2
    have HN2 := Kp.mk (stored_new HS1.out HS2.out hs2 HO2.out)
    have HF2 := Kp.mk ((HN2.out.block _ (heap_lt HF1.out)).trans HF1.out)
    clear hs2
    have f0 := blk_cell Hf2.out 0
    go_wp2_with (fail)
    refine (stockadehelp_Bare.calls 1 1 0 false _ rfl).mono ?_
    rintro e w4 ⟨rfl, hb⟩
    have HF4 := Kp.mk ((hb.block _ (heap_lt HF2.out)).trans HF2.out)
    have HS4 := Kp.mk (below_step HS2.out hb)
    clear f0
    go_wp2_with (with_reducible refine st_blk (w0 := w) (base := w.heap.size) rfl 38 (.tmp 3) (.tmp 27) rfl rfl (w.heap.size + 1) _ rfl rfl HF4 (by kernel_rfl) (by kernel_rfl) (by kernel_rfl) HS4 (Nat.le_succ _) ?_)
    intro w5 Hf5 HO5 HS5 hs5
    go_wp2
    refine bodyPost_ret (results_tc rfl _ _ (w.heap.size + 1) 38 #[.int .i64 1, .int .i64 0, .bool false] (0, 0) _ rfl Hf5.out Tryz.underlying38 rfl (by kernel_rfl)) rfl ?_
    exact ⟨_, rfl, Kd.R_nil _ _ _ _ _, HS5.out⟩
theorem rwq_good (q : Qu) (w : World) (hs : q.name.length ≤ 8100) (hq : q.right = true) : Calls Tryz.prog 18 #[.agg #[.string (mkB q.name), .int .i64 q.typ, .int .i64 q.cls]] w (GivesT q.wire .none w) := by
  obtain ⟨hn, ht, hc⟩ := Qu.right_mk hq
  have hnl := nameW_len _ hn
  obtain ⟨qn, qt, qc⟩ := q
  have hw : Qu.wire ⟨qn, qt, qc⟩ = nameW qn ++ be16 qt ++ be16 qc := rfl
  rw [hw]
  clear hq hw
  dsimp only at hs ht hc hnl hn ⊢
  obtain ⟨ht0, ht1⟩ := ht
  obtain ⟨hc0, hc1'⟩ := hc
  have HW1 : Kp (within qt = true) := ⟨by unfold within; simp [ht0, ht1]⟩
  have HW2 : Kp (within qc = true) := ⟨by unfold within; simp [hc0, hc1']⟩
  have Hg := Kp.mk (heap_new w (.cells #[.string (mkB qn), .int .i64 qt, .int .i64 qc] 30))
  have HB0 := Kp.mk ((Below.refl w.heap.size w).alloc (Nat.le_refl _) (.cells #[.string (mkB qn), .int .i64 qt, .int .i64 qc] 30))
  have HF : Kp (((w.alloc (.cells #[.string (mkB qn), .int .i64 qt, .int .i64 qc] 30)).alloc (.cells #[.int .i64 0, .int .i64 0, .bool false] 38)).heap[w.heap.size + 1]? = some (.cells #[.int .i64 0, .int .i64 0, .bool false] 38 (0, 0))) := ⟨by
    rw [show w.heap.size + 1 = (w.alloc (.cells #[.string (mkB qn), .int .i64 qt, .int .i64 qc] 30)).heap.size by simp]; exact heap_new _ _⟩
  have HS := Kp.mk (HB0.out.alloc HB0.out.size (.cells #[.int .i64 0, .int .i64 0, .bool false] 38))
  have Hg0 : Kp (((w.alloc (.cells #[.string (mkB qn), .int .i64 qt, .int .i64 qc] 30)).alloc (.cells #[.int .i64 0, .int .i64 0, .bool false] 38)).heap[w.heap.size]? = some (.cells #[.string (mkB qn), .int .i64 qt, .int .i64 qc] 30 (0, 0))) := ⟨(((Below.refl _ _).alloc (Nat.le_refl _) _).block _ (heap_lt Hg.out)).trans Hg.out⟩
  have HN := Kp.mk hn
  clear hn Hg HB0
  go_enter Tryz.func18, Tryz.ntmps18
  go_wp2_with (fail)
  have c0 := blk_cell Hg0.out 0
  go_wp2_with (fail)
  refine tw_ (rwriteB_good qn _ hs HN.out) (u := .agg #[.int .i64 0, .int .i64 0, .bool false]) rfl HS ?_
  intro A1 c1 w1 hc1 HC1 HM1 HB1 HS1
  have Hg1 := Kp.mk ((HB1.out.block _ (heap_lt Hg0.out)).trans Hg0.out)
  have HF1 := Kp.mk ((HB1.out.block _ (heap_lt HF.out)).trans HF.out)
  have HS1a := Kp.mk (HS1.out.alloc HS1.out.size (.cells #[.int .i64 0, .int .i64 0, .bool false] 38))
  have hz1 := HS1.out.size
  clear c0
  go_wp2_with (with_reducible refine st_blk (w0 := w) (base := w.heap.size) rfl 38 (.tmp 5) (.tmp 11) rfl rfl w1.heap.size _ rfl rfl ⟨heap_new _ _⟩ (by kernel_rfl) (by kernel_rfl) (by kernel_rfl) HS1a hz1 ?_)
  intro w2 Hf2 HO2 HS2 hs2
  have HN2 := Kp.mk (stored_new HS1.out HS2.out hs2 HO2.out)
  have Hg2 := Kp.mk ((HN2.out.block _ (heap_lt Hg1.out)).trans Hg1.out)
  have HF2 := Kp.mk ((HN2.out.block _ (heap_lt HF1.out)).trans HF1.out)
  clear hs2
  have f0 := blk_cell Hf2.out 0
  have d1 := blk_cell Hg2.out 1
  go_wp2_with (fail)
  refine t_ (rtwo_calls qt _) HS2 ?_
  intro w3 HB3 HS3
  have Hg3 := Kp.mk ((HB3.out.block _ (heap_lt Hg2.out)).trans Hg2.out)
  have HF3 := Kp.mk ((HB3.out.block _ (heap_lt HF2.out)).trans HF2.out)
  rw [HW1.out]
  clear f0 d1
  have d2 := blk_cell Hg3.out 2
  go_wp2_with (fail)
  refine t_ (rtwo_calls qc _) HS3 ?_
  intro w4 HB4 HS4
  have Hg4 := Kp.mk ((HB4.out.block _ (heap_lt Hg3.out)).trans Hg3.out)
  have HF4 := Kp.mk ((HB4.out.block _ (heap_lt HF3.out)).trans HF3.out)
  rw [HW2.out]
  clear d2
  have HCw := Kp.mk (Kd.C_below (Kd.C_below (Kd.C_below HC1.out HN2.out) HB3.out) HB4.out)
  obtain ⟨ns, hns⟩ : ∃ ns, nameW qn = ns := ⟨_, rfl⟩
  rw [hns] at hnl HCw hc1 ⊢
  obtain ⟨ys, hys⟩ : ∃ ys, ns ++ be16 qt = ys := ⟨_, rfl⟩
  have hyl : ys.length ≤ 258 := by rw [← hys, List.length_append]; show ns.length + 2 ≤ 258; omega
  have H1 : Kp (∀ W, (Kd.int .u8).C W A1 ns.length ns → Calls Tryz.prog 54 #[.slice A1 ns.length c1, .int .i64 qt, .int .i64 2] W (GivesB ys W)) := ⟨fun W h => hys ▸ rput2_calls A1 c1 ns qt W h hc1 (by omega) ht0 ht1⟩
  have H2 : Kp (∀ W A c, (Kd.int .u8).C W A ys.length ys → ys.length ≤ c → Calls Tryz.prog 54 #[.slice A ys.length c, .int .i64 qc, .int .i64 2] W (GivesB (ys ++ be16 qc) W)) := ⟨fun W A c h hc => rput2_calls A c ys qc W h hc (by omega) hc0 hc1'⟩
  have HY := Kp.mk hys
  have HNS := Kp.mk hns
  have HL := Kp.mk hyl
  clear HC1 HM1 hns hys hyl hnl ht0 ht1 hc0 hc1'
  have HSd := Kp.mk (HS4.out.trans (below_drew (Below.refl w4.heap.size w4) |>.mono HS4.out.size))
  have HCd := Kp.mk (Kd.C_below HCw.out (below_drew (Below.refl _ _)))
  have f1 := blk_cell Hg4.out 1
  have f2 := blk_cell Hg4.out 2
  have F1 : Kp (w4.drew.cell? ⟨w.heap.size, 1, none⟩ = some (.int .i64 qt)) := ⟨by simpa using f1⟩
  have F2 : Kp (w4.drew.cell? ⟨w.heap.size, 2, none⟩ = some (.int .i64 qc)) := ⟨by simpa using f2⟩
  have HFd : Kp (w4.drew.heap[w.heap.size + 1]? = some (.cells #[.int .i64 0, .int .i64 0, .bool false] 38 (0, 0))) := ⟨HF4.out⟩
  go_wp2_with (fail)
  go_region_held3 (fun w' => w'.cell? ⟨w.heap.size, 1, none⟩ = some (.int .i64 qt) ∧ w'.cell? ⟨w.heap.size, 2, none⟩ = some (.int .i64 qc)) (first | exact ⟨pw_cell_below HB5.out F1.out, pw_cell_below HB5.out F2.out⟩ | exact ⟨pw_cell_below HB6.out (pw_cell_below HB5.out F1.out), pw_cell_below HB6.out (pw_cell_below HB5.out F2.out)⟩ | go_keep)
    (first
      | (go_at_call_of 54 qt; (with_reducible refine tb_ (H1.out _ HCd.out) HSd ?_); intro A5 c5 w5 hc5 HC5 HM5 HB5 HS5)
      | (go_at_call_of 54 qc; (with_reducible refine tb_ (H2.out _ _ _ HC5.out hc5) HS5 ?_); intro A6 c6 w6 hc6 HC6 HM6 HB6 HS6; have HF6 := Kp.mk ((HB6.out.block _ (heap_lt ((HB5.out.block _ (heap_lt HFd.out)).trans HFd.out))).trans ((HB5.out.block _ (heap_lt HFd.out)).trans HFd.out)); have x0 := blk_cell HF6.out 0; have x1 := blk_cell HF6.out 1; have x2 := blk_cell HF6.out 2; have y0 := blk_frozen HF6.out 0; have y1 := blk_frozen HF6.out 1; have y2 := blk_frozen HF6.out 2))
  go_wp2
  have z0 := blk_put HF6.out 0 (.int .i64 0) (cs' := #[.int .i64 0, .int .i64 0, .bool false]) rfl
  have z1 := blk_put z0 1 (.int .i64 0) (cs' := #[.int .i64 0, .int .i64 0, .bool false]) rfl
  have z2 := blk_put z1 2 (.bool false) (cs' := #[.int .i64 0, .int .i64 0, .bool false]) rfl
  refine bodyPost_ret (results_tc rfl _ _ (w.heap.size + 1) 38 #[.int .i64 0, .int .i64 0, .bool false] (0, 0) _ rfl z2 Tryz.underlying38 rfl (by kernel_rfl)) rfl ?_
  have hfin := Kd.R_set (Kd.R_set (Kd.R_set (Kd.R_lower HM6.out HS5.out.size) HF6.out (by decide) 0 (.int .i64 0)) z0 (by decide) 1 (.int .i64 0)) z1 (by decide) 2 (.bool false)
  rw [List.length_append] at hfin
  exact ⟨_, rfl, by rw [HNS.out, HY.out]; exact hfin, ((HS6.out.setCell (p := ⟨w.heap.size + 1, 0, none⟩) (Nat.le_succ _) _).setCell (p := ⟨w.heap.size + 1, 1, none⟩) (Nat.le_succ _) _).setCell (p := ⟨w.heap.size + 1, 2, none⟩) (Nat.le_succ _) _⟩
end Go.Proofs.YtlkneoednkhleaaGreatDoor
