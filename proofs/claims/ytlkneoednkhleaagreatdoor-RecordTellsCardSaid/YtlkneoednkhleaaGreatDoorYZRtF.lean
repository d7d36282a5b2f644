/-
  The document's answers for records: WriteRecord, by its contract.
-/
import Derived.Test.YtlkneoednkhleaaGreatDoorYZRtE
import Derived.Test.YtlkneoednkhleaaGreatDoorYGy
namespace Go.Proofs.YtlkneoednkhleaaGreatDoor
open Go.RowKit Go.Proofs.YtlkneoednkhleaaGreatDoorW.PrintWords Go.Proofs.YtlkneoednkhleaaGreatDoor.P
set_option linter.unusedVariables false
set_option linter.unusedSimpArgs false
set_option maxRecDepth 100000
set_option maxHeartbeats 2000000

theorem rwr_bad0 (rn rtg : L) (rt rc rl : Int) (v6 : Bool) (b : Nat → Int) (rd : List Int) (A : Option Addr) (c : Nat) (w : World) (hs : rn.length ≤ 8100) (ht : rtg.length ≤ 8100) (hd : rd.length ≤ 9223372036854775807) (hr : Rec.right ⟨rn, rt, rc, rl, ⟨v6, b⟩, rtg, rd⟩ = false) :
    Calls Tryz.prog 16 #[.agg #[.string (mkB rn), .int .i64 rt, .int .i64 rc, .int .u32 rl, .bool v6, .int .u8 (b 0), .int .u8 (b 1), .int .u8 (b 2), .int .u8 (b 3), .int .u8 (b 4), .int .u8 (b 5), .int .u8 (b 6), .int .u8 (b 7), .int .u8 (b 8), .int .u8 (b 9), .int .u8 (b 10), .int .u8 (b 11), .int .u8 (b 12), .int .u8 (b 13), .int .u8 (b 14), .int .u8 (b 15), .string (mkB rtg), .slice A rd.length c]] w (GivesT [] (.code 1) w) := by
  have HRR := Kp.mk (fun W => hr ▸ rrec_right ⟨rn, rt, rc, rl, ⟨v6, b⟩, rtg, rd⟩ A c W hs ht hd)
  clear hr
  have Hg := Kp.mk (heap_new w (.cells #[.string (mkB rn), .int .i64 rt, .int .i64 rc, .int .u32 rl, .bool v6, .int .u8 (b 0), .int .u8 (b 1), .int .u8 (b 2), .int .u8 (b 3), .int .u8 (b 4), .int .u8 (b 5), .int .u8 (b 6), .int .u8 (b 7), .int .u8 (b 8), .int .u8 (b 9), .int .u8 (b 10), .int .u8 (b 11), .int .u8 (b 12), .int .u8 (b 13), .int .u8 (b 14), .int .u8 (b 15), .string (mkB rtg), .slice A rd.length c] 28))
  have HB0 := Kp.mk ((Below.refl w.heap.size w).alloc (Nat.le_refl _) (.cells #[.string (mkB rn), .int .i64 rt, .int .i64 rc, .int .u32 rl, .bool v6, .int .u8 (b 0), .int .u8 (b 1), .int .u8 (b 2), .int .u8 (b 3), .int .u8 (b 4), .int .u8 (b 5), .int .u8 (b 6), .int .u8 (b 7), .int .u8 (b 8), .int .u8 (b 9), .int .u8 (b 10), .int .u8 (b 11), .int .u8 (b 12), .int .u8 (b 13), .int .u8 (b 14), .int .u8 (b 15), .string (mkB rtg), .slice A rd.length c] 28))
  have HF : Kp (((w.alloc (.cells #[.string (mkB rn), .int .i64 rt, .int .i64 rc, .int .u32 rl, .bool v6, .int .u8 (b 0), .int .u8 (b 1), .int .u8 (b 2), .int .u8 (b 3), .int .u8 (b 4), .int .u8 (b 5), .int .u8 (b 6), .int .u8 (b 7), .int .u8 (b 8), .int .u8 (b 9), .int .u8 (b 10), .int .u8 (b 11), .int .u8 (b 12), .int .u8 (b 13), .int .u8 (b 14), .int .u8 (b 15), .string (mkB rtg), .slice A rd.length c] 28)).alloc (.cells #[.int .i64 0, .int .i64 0, .bool false] 38)).heap[w.heap.size + 1]? = some (.cells #[.int .i64 0, .int .i64 0, .bool false] 38 (0, 0))) := ⟨by
    rw [show w.heap.size + 1 = (w.alloc (.cells #[.string (mkB rn), .int .i64 rt, .int .i64 rc, .int .u32 rl, .bool v6, .int .u8 (b 0), .int .u8 (b 1), .int .u8 (b 2), .int .u8 (b 3), .int .u8 (b 4), .int .u8 (b 5), .int .u8 (b 6), .int .u8 (b 7), .int .u8 (b 8), .int .u8 (b 9), .int .u8 (b 10), .int .u8 (b 11), .int .u8 (b 12), .int .u8 (b 13), .int .u8 (b 14), .int .u8 (b 15), .string (mkB rtg), .slice A rd.length c] 28)).heap.size by simp]; exact heap_new _ _⟩
  have HS := Kp.mk (HB0.out.alloc HB0.out.size (.cells #[.int .i64 0, .int .i64 0, .bool false] 38))
  have Hg0 : Kp (((w.alloc (.cells #[.string (mkB rn), .int .i64 rt, .int .i64 rc, .int .u32 rl, .bool v6, .int .u8 (b 0), .int .u8 (b 1), .int .u8 (b 2), .int .u8 (b 3), .int .u8 (b 4), .int .u8 (b 5), .int .u8 (b 6), .int .u8 (b 7), .int .u8 (b 8), .int .u8 (b 9), .int .u8 (b 10), .int .u8 (b 11), .int .u8 (b 12), .int .u8 (b 13), .int .u8 (b 14), .int .u8 (b 15), .string (mkB rtg), .slice A rd.length c] 28)).alloc (.cells #[.int .i64 0, .int .i64 0, .bool false] 38)).heap[w.heap.size]? = some (.cells #[.string (mkB rn), .int .i64 rt, .int .i64 rc, .int .u32 rl, .bool v6, .int .u8 (b 0), .int .u8 (b 1), .int .u8 (b 2), .int .u8 (b 3), .int .u8 (b 4), .int .u8 (b 5), .int .u8 (b 6), .int .u8 (b 7), .int .u8 (b 8), .int .u8 (b 9), .int .u8 (b 10), .int .u8 (b 11), .int .u8 (b 12), .int .u8 (b 13), .int .u8 (b 14), .int .u8 (b 15), .string (mkB rtg), .slice A rd.length c] 28 (0, 0))) := ⟨(((Below.refl _ _).alloc (Nat.le_refl _) _).block _ (heap_lt Hg.out)).trans Hg.out⟩
  clear Hg HB0
  go_enter Tryz.func16, Tryz.ntmps16
  go_wp2_with (with_reducible refine ld_blk rfl 28 (.tmp 1) rfl w.heap.size rfl Hg0 Tryz.underlying28 rfl (by kernel_rfl) ?_)
  refine t_ (HRR.out _) HS ?_
  intro w1 HB1 HS1
  have Hg1 := Kp.mk ((HB1.out.block _ (heap_lt Hg0.out)).trans Hg0.out)
  have HF1 := Kp.mk ((HB1.out.block _ (heap_lt HF.out)).trans HF.out)
  go_wp2_with (fail)
  refine (stockadehelp_Bare.calls 1 1 0 false _ rfl).mono ?_
  rintro e w4 ⟨rfl, hb⟩
  have HF4 := Kp.mk ((hb.block _ (heap_lt HF1.out)).trans HF1.out)
  have HS4 := Kp.mk (below_step HS1.out hb)
  go_wp2_with (with_reducible refine st_blk (w0 := w) (base := w.heap.size) rfl 38 (.tmp 3) (.tmp 10) rfl rfl (w.heap.size + 1) _ rfl rfl HF4 (by kernel_rfl) (by kernel_rfl) (by kernel_rfl) HS4 (Nat.le_succ _) ?_)
  intro w5 Hf5 HO5 HS5 hs5
  go_wp2
  refine bodyPost_ret (results_tc rfl _ _ (w.heap.size + 1) 38 #[.int .i64 1, .int .i64 0, .bool false] (0, 0) _ rfl Hf5.out Tryz.underlying38 rfl (by kernel_rfl)) rfl ?_
  exact ⟨_, rfl, Kd.R_nil _ _ _ _ _, HS5.out⟩
theorem rwr_1 (rn rtg : L) (rc rl : Int) (b : Nat → Int) (rd : List Int) (A : Option Addr) (c : Nat) (w : World) (hs : rn.length ≤ 8100) (ht : rtg.length ≤ 8100) (hd : rd.length ≤ 1000) (hl0 : 0 ≤ rl) (hl1 : rl ≤ 4294967295) (hr : Rec.right ⟨rn, 1, rc, rl, ⟨false, b⟩, rtg, rd⟩ = true) (hq : Qu.right ⟨rn, 1, rc⟩ = true) :
    Calls Tryz.prog 16 #[.agg #[.string (mkB rn), .int .i64 1, .int .i64 rc, .int .u32 rl, .bool false, .int .u8 (b 0), .int .u8 (b 1), .int .u8 (b 2), .int .u8 (b 3), .int .u8 (b 4), .int .u8 (b 5), .int .u8 (b 6), .int .u8 (b 7), .int .u8 (b 8), .int .u8 (b 9), .int .u8 (b 10), .int .u8 (b 11), .int .u8 (b 12), .int .u8 (b 13), .int .u8 (b 14), .int .u8 (b 15), .string (mkB rtg), .slice A rd.length c]] w (GivesT (Qu.wire ⟨rn, 1, rc⟩ ++ be32 rl ++ be16 ((4 : Nat) : Int) ++ [b 0, b 1, b 2, b 3]) .none w) := by
  have HRR := Kp.mk (fun W => hr ▸ rrec_right ⟨rn, 1, rc, rl, ⟨false, b⟩, rtg, rd⟩ A c W hs ht (by show rd.length ≤ _; omega))
  have hql : (Qu.wire ⟨rn, 1, rc⟩).length ≤ 260 := by
    have := nameW_len rn (Qu.right_mk hq).1
    unfold Qu.wire
    simp only [List.length_append]
    show (nameW rn).length + 2 + 2 ≤ 260
    omega
  have HWQ := Kp.mk (fun W => rwq_good ⟨rn, 1, rc⟩ W hs hq)
  obtain ⟨qs, hqs⟩ : ∃ qs, Qu.wire ⟨rn, 1, rc⟩ = qs := ⟨_, rfl⟩
  rw [hqs] at hql HWQ ⊢
  clear hqs hr hq
  have Hg := Kp.mk (heap_new w (.cells #[.string (mkB rn), .int .i64 1, .int .i64 rc, .int .u32 rl, .bool false, .int .u8 (b 0), .int .u8 (b 1), .int .u8 (b 2), .int .u8 (b 3), .int .u8 (b 4), .int .u8 (b 5), .int .u8 (b 6), .int .u8 (b 7), .int .u8 (b 8), .int .u8 (b 9), .int .u8 (b 10), .int .u8 (b 11), .int .u8 (b 12), .int .u8 (b 13), .int .u8 (b 14), .int .u8 (b 15), .string (mkB rtg), .slice A rd.length c] 28))
  have HB0 := Kp.mk ((Below.refl w.heap.size w).alloc (Nat.le_refl _) (.cells #[.string (mkB rn), .int .i64 1, .int .i64 rc, .int .u32 rl, .bool false, .int .u8 (b 0), .int .u8 (b 1), .int .u8 (b 2), .int .u8 (b 3), .int .u8 (b 4), .int .u8 (b 5), .int .u8 (b 6), .int .u8 (b 7), .int .u8 (b 8), .int .u8 (b 9), .int .u8 (b 10), .int .u8 (b 11), .int .u8 (b 12), .int .u8 (b 13), .int .u8 (b 14), .int .u8 (b 15), .string (mkB rtg), .slice A rd.length c] 28))
  have HF : Kp (((w.alloc (.cells #[.string (mkB rn), .int .i64 1, .int .i64 rc, .int .u32 rl, .bool false, .int .u8 (b 0), .int .u8 (b 1), .int .u8 (b 2), .int .u8 (b 3), .int .u8 (b 4), .int .u8 (b 5), .int .u8 (b 6), .int .u8 (b 7), .int .u8 (b 8), .int .u8 (b 9), .int .u8 (b 10), .int .u8 (b 11), .int .u8 (b 12), .int .u8 (b 13), .int .u8 (b 14), .int .u8 (b 15), .string (mkB rtg), .slice A rd.length c] 28)).alloc (.cells #[.int .i64 0, .int .i64 0, .bool false] 38)).heap[w.heap.size + 1]? = some (.cells #[.int .i64 0, .int .i64 0, .bool false] 38 (0, 0))) := ⟨by
    rw [show w.heap.size + 1 = (w.alloc (.cells #[.string (mkB rn), .int .i64 1, .int .i64 rc, .int .u32 rl, .bool false, .int .u8 (b 0), .int .u8 (b 1), .int .u8 (b 2), .int .u8 (b 3), .int .u8 (b 4), .int .u8 (b 5), .int .u8 (b 6), .int .u8 (b 7), .int .u8 (b 8), .int .u8 (b 9), .int .u8 (b 10), .int .u8 (b 11), .int .u8 (b 12), .int .u8 (b 13), .int .u8 (b 14), .int .u8 (b 15), .string (mkB rtg), .slice A rd.length c] 28)).heap.size by simp]; exact heap_new _ _⟩
  have HS := Kp.mk (HB0.out.alloc HB0.out.size (.cells #[.int .i64 0, .int .i64 0, .bool false] 38))
  have Hg0 : Kp (((w.alloc (.cells #[.string (mkB rn), .int .i64 1, .int .i64 rc, .int .u32 rl, .bool false, .int .u8 (b 0), .int .u8 (b 1), .int .u8 (b 2), .int .u8 (b 3), .int .u8 (b 4), .int .u8 (b 5), .int .u8 (b 6), .int .u8 (b 7), .int .u8 (b 8), .int .u8 (b 9), .int .u8 (b 10), .int .u8 (b 11), .int .u8 (b 12), .int .u8 (b 13), .int .u8 (b 14), .int .u8 (b 15), .string (mkB rtg), .slice A rd.length c] 28)).alloc (.cells #[.int .i64 0, .int .i64 0, .bool false] 38)).heap[w.heap.size]? = some (.cells #[.string (mkB rn), .int .i64 1, .int .i64 rc, .int .u32 rl, .bool false, .int .u8 (b 0), .int .u8 (b 1), .int .u8 (b 2), .int .u8 (b 3), .int .u8 (b 4), .int .u8 (b 5), .int .u8 (b 6), .int .u8 (b 7), .int .u8 (b 8), .int .u8 (b 9), .int .u8 (b 10), .int .u8 (b 11), .int .u8 (b 12), .int .u8 (b 13), .int .u8 (b 14), .int .u8 (b 15), .string (mkB rtg), .slice A rd.length c] 28 (0, 0))) := ⟨(((Below.refl _ _).alloc (Nat.le_refl _) _).block _ (heap_lt Hg.out)).trans Hg.out⟩
  clear Hg HB0
  go_enter Tryz.func16, Tryz.ntmps16
  go_wp2_with (with_reducible refine ld_blk rfl 28 (.tmp 1) rfl w.heap.size rfl Hg0 Tryz.underlying28 rfl (by kernel_rfl) ?_)
  refine t_ (HRR.out _) HS ?_
  intro w1 HB1 HS1
  have Hg1 := Kp.mk ((HB1.out.block _ (heap_lt Hg0.out)).trans Hg0.out)
  have HF1 := Kp.mk ((HB1.out.block _ (heap_lt HF.out)).trans HF.out)
  have c0 := blk_cell Hg1.out 0
  have c1 := blk_cell Hg1.out 1
  have c2 := blk_cell Hg1.out 2
  go_wp2_with (fail)
  refine tw_ (HWQ.out _) (u := .agg #[.int .i64 0, .int .i64 0, .bool false]) rfl HS1 ?_
  intro A2 k2 w2 hc2 HC2 HM2 HB2 HS2
  have Hg2 := Kp.mk ((HB2.out.block _ (heap_lt Hg1.out)).trans Hg1.out)
  have HF2 := Kp.mk ((HB2.out.block _ (heap_lt HF1.out)).trans HF1.out)
  have HS2a := Kp.mk (HS2.out.alloc HS2.out.size (.cells #[.int .i64 0, .int .i64 0, .bool false] 38))
  have hz2 := HS2.out.size
  clear c0 c1 c2
  go_wp2_with (with_reducible refine st_blk (w0 := w) (base := w.heap.size) rfl 38 (.tmp 5) (.tmp 21) rfl rfl w2.heap.size _ rfl rfl ⟨heap_new _ _⟩ (by kernel_rfl) (by kernel_rfl) (by kernel_rfl) HS2a hz2 ?_)
  intro w3 Hf3 HO3 HS3 hs3
  have HN3 := Kp.mk (stored_new HS2.out HS3.out hs3 HO3.out)
  have Hg3 := Kp.mk ((HN3.out.block _ (heap_lt Hg2.out)).trans Hg2.out)
  have HF3 := Kp.mk ((HN3.out.block _ (heap_lt HF2.out)).trans HF2.out)
  have HQ3 := Kp.mk (Kd.C_below HC2.out HN3.out)
  clear hs3 HM2 HC2 hz2
  have d22 := blk_cell Hg3.out 22
  have d1 := blk_cell Hg3.out 1
  go_wp2_with (with_reducible refine ld_mid rfl 26 (.tmp 31) rfl w.heap.size 4 rfl Hg3 Tryz.underlying26 rfl [.bool false, .int .u8 (b 0), .int .u8 (b 1), .int .u8 (b 2), .int .u8 (b 3), .int .u8 (b 4), .int .u8 (b 5), .int .u8 (b 6), .int .u8 (b 7), .int .u8 (b 8), .int .u8 (b 9), .int .u8 (b 10), .int .u8 (b 11), .int .u8 (b 12), .int .u8 (b 13), .int .u8 (b 14), .int .u8 (b 15)] (by kernel_rfl) rfl ?_)
  refine t_ (rsize_calls ⟨false, b⟩ _) HS3 ?_
  intro w4 HB4 HS4
  have Hg4 := Kp.mk ((HB4.out.block _ (heap_lt Hg3.out)).trans Hg3.out)
  have HF4 := Kp.mk ((HB4.out.block _ (heap_lt HF3.out)).trans HF3.out)
  have HQ4 := Kp.mk (Kd.C_below HQ3.out HB4.out)
  clear d22 d1
  have H1 : Kp (∀ W, (Kd.int .u8).C W A2 qs.length qs → Calls Tryz.prog 54 #[.slice A2 qs.length k2, .int .i64 rl, .int .i64 4] W (GivesB (qs ++ be32 rl) W)) := ⟨fun W h => rput4_calls A2 k2 qs rl W h hc2 (by omega) hl0 hl1⟩
  obtain ⟨ys, hys⟩ : ∃ ys, qs ++ be32 rl = ys := ⟨_, rfl⟩
  have hyl : ys.length ≤ 264 := by rw [← hys, List.length_append]; show qs.length + 4 ≤ 264; omega
  rw [hys] at H1
  have H2 : Kp (∀ W A c, (Kd.int .u8).C W A ys.length ys → ys.length ≤ c → Calls Tryz.prog 54 #[.slice A ys.length c, .int .i64 4, .int .i64 2] W (GivesB (ys ++ be16 ((4 : Nat) : Int)) W)) := ⟨fun W A c h hc => rput2_calls A c ys ((4 : Nat) : Int) W h hc (by omega) (by omega) (by omega)⟩
  obtain ⟨zs, hzs⟩ : ∃ zs, ys ++ be16 ((4 : Nat) : Int) = zs := ⟨_, rfl⟩
  have hzl : zs.length ≤ 266 := by rw [← hzs, List.length_append]; show ys.length + 2 ≤ 266; omega
  rw [hzs] at H2
  have HY := Kp.mk hys
  have HZ := Kp.mk hzs
  have HZL := Kp.mk hzl
  have hwl : wrap64 rl = rl := by unfold wrap64; omega
  clear hys hzs hyl hzl hql
  have e3 := blk_cell Hg4.out 3
  go_wp2_with (fail)
  refine tb_ (H1.out _ HQ4.out) HS4 ?_
  intro A7 c7 w7 hc7 HC7 HM7 HB7 HS7
  have HF7 := Kp.mk ((HB7.out.block _ (heap_lt HF4.out)).trans HF4.out)
  have hz7 := heap_lt HF7.out
  have HZ7 := Kp.mk hz7
  clear hz7 e3
  go_wp2_with (fail)
  refine tb_ (H2.out _ _ _ HC7.out hc7) HS7 ?_
  intro A8 c8 w8 hc8 HC8 HM8 HB8 HS8
  have HX8 := Kp.mk (Kd.C_below (Kd.C_below (C_blk (o := 5) Hg4.out (by show (4 : Nat) ≤ 9223372036854775807; decide) (fun j hj => by
    have hj' : j < 4 := hj
    match j, hj' with
    | 0, _ => rfl
    | 1, _ => rfl
    | 2, _ => rfl
    | 3, _ => rfl
    | n + 4, h => exact absurd h (by omega)) : (Kd.int .u8).C w4 (some ⟨w.heap.size, 5, none⟩) 4 [b 0, b 1, b 2, b 3]) HB7.out) HB8.out)
  go_wp2_with (at_builtin; (with_reducible refine gate_builtin (b := .append) (xs := #[.tmp 51, .tmp 52]) rfl ?_); go_must (refine app_bytes (w0 := w7) (base := w7.heap.size) (s := .tmp 51) (x := .tmp 52) (v := .slice A8 zs.length c8) rfl rfl zs ([b 0, b 1, b 2, b 3]) (some ⟨w.heap.size, 5, none⟩) (4) (16) rfl rfl HM8.out HX8.out HB8.out HB8.out.size (by have := HZL.out; omega) ?_))
  intro v9 w9 HR9 HB9 hs9
  have HF9 := Kp.mk ((HB9.out.block _ (heap_lt HF7.out)).trans HF7.out)
  have HS9 := Kp.mk (below_step HS7.out HB9.out)
  go_wp2_with (with_reducible refine st_blk (w0 := w) (base := w.heap.size) rfl 38 (.tmp 3) (.tmp 54) rfl rfl (w.heap.size + 1) _ rfl rfl HF9 (by kernel_rfl) (by kernel_rfl) (by kernel_rfl) HS9 (Nat.le_succ _) ?_)
  intro w10 Hf10 HO10 HS10 hs10
  go_wp2
  refine bodyPost_ret (results_tc rfl _ _ (w.heap.size + 1) 38 #[.int .i64 0, .int .i64 0, .bool false] (0, 0) _ rfl Hf10.out Tryz.underlying38 rfl (by kernel_rfl)) rfl ?_
  exact ⟨v9, rfl, by rw [HY.out, HZ.out]; exact Kd.R_lower (R_stored HR9.out HZ7.out HO10.out) HS7.out.size, HS10.out⟩
theorem rwr_28 (rn rtg : L) (rc rl : Int) (b : Nat → Int) (rd : List Int) (A : Option Addr) (c : Nat) (w : World) (hs : rn.length ≤ 8100) (ht : rtg.length ≤ 8100) (hd : rd.length ≤ 1000) (hl0 : 0 ≤ rl) (hl1 : rl ≤ 4294967295) (hr : Rec.right ⟨rn, 28, rc, rl, ⟨true, b⟩, rtg, rd⟩ = true) (hq : Qu.right ⟨rn, 28, rc⟩ = true) :
    Calls Tryz.prog 16 #[.agg #[.string (mkB rn), .int .i64 28, .int .i64 rc, .int .u32 rl, .bool true, .int .u8 (b 0), .int .u8 (b 1), .int .u8 (b 2), .int .u8 (b 3), .int .u8 (b 4), .int .u8 (b 5), .int .u8 (b 6), .int .u8 (b 7), .int .u8 (b 8), .int .u8 (b 9), .int .u8 (b 10), .int .u8 (b 11), .int .u8 (b 12), .int .u8 (b 13), .int .u8 (b 14), .int .u8 (b 15), .string (mkB rtg), .slice A rd.length c]] w (GivesT (Qu.wire ⟨rn, 28, rc⟩ ++ be32 rl ++ be16 ((16 : Nat) : Int) ++ [b 0, b 1, b 2, b 3, b 4, b 5, b 6, b 7, b 8, b 9, b 10, b 11, b 12, b 13, b 14, b 15]) .none w) := by
  have HRR := Kp.mk (fun W => hr ▸ rrec_right ⟨rn, 28, rc, rl, ⟨true, b⟩, rtg, rd⟩ A c W hs ht (by show rd.length ≤ _; omega))
  have hql : (Qu.wire ⟨rn, 28, rc⟩).length ≤ 260 := by
    have := nameW_len rn (Qu.right_mk hq).1
    unfold Qu.wire
    simp only [List.length_append]
    show (nameW rn).length + 2 + 2 ≤ 260
    omega
  have HWQ := Kp.mk (fun W => rwq_good ⟨rn, 28, rc⟩ W hs hq)
  obtain ⟨qs, hqs⟩ : ∃ qs, Qu.wire ⟨rn, 28, rc⟩ = qs := ⟨_, rfl⟩
  rw [hqs] at hql HWQ ⊢
  clear hqs hr hq
  have Hg := Kp.mk (heap_new w (.cells #[.string (mkB rn), .int .i64 28, .int .i64 rc, .int .u32 rl, .bool true, .int .u8 (b 0), .int .u8 (b 1), .int .u8 (b 2), .int .u8 (b 3), .int .u8 (b 4), .int .u8 (b 5), .int .u8 (b 6), .int .u8 (b 7), .int .u8 (b 8), .int .u8 (b 9), .int .u8 (b 10), .int .u8 (b 11), .int .u8 (b 12), .int .u8 (b 13), .int .u8 (b 14), .int .u8 (b 15), .string (mkB rtg), .slice A rd.length c] 28))
  have HB0 := Kp.mk ((Below.refl w.heap.size w).alloc (Nat.le_refl _) (.cells #[.string (mkB rn), .int .i64 28, .int .i64 rc, .int .u32 rl, .bool true, .int .u8 (b 0), .int .u8 (b 1), .int .u8 (b 2), .int .u8 (b 3), .int .u8 (b 4), .int .u8 (b 5), .int .u8 (b 6), .int .u8 (b 7), .int .u8 (b 8), .int .u8 (b 9), .int .u8 (b 10), .int .u8 (b 11), .int .u8 (b 12), .int .u8 (b 13), .int .u8 (b 14), .int .u8 (b 15), .string (mkB rtg), .slice A rd.length c] 28))
  have HF : Kp (((w.alloc (.cells #[.string (mkB rn), .int .i64 28, .int .i64 rc, .int .u32 rl, .bool true, .int .u8 (b 0), .int .u8 (b 1), .int .u8 (b 2), .int .u8 (b 3), .int .u8 (b 4), .int .u8 (b 5), .int .u8 (b 6), .int .u8 (b 7), .int .u8 (b 8), .int .u8 (b 9), .int .u8 (b 10), .int .u8 (b 11), .int .u8 (b 12), .int .u8 (b 13), .int .u8 (b 14), .int .u8 (b 15), .string (mkB rtg), .slice A rd.length c] 28)).alloc (.cells #[.int .i64 0, .int .i64 0, .bool false] 38)).heap[w.heap.size + 1]? = some (.cells #[.int .i64 0, .int .i64 0, .bool false] 38 (0, 0))) := ⟨by
    rw [show w.heap.size + 1 = (w.alloc (.cells #[.string (mkB rn), .int .i64 28, .int .i64 rc, .int .u32 rl, .bool true, .int .u8 (b 0), .int .u8 (b 1), .int .u8 (b 2), .int .u8 (b 3), .int .u8 (b 4), .int .u8 (b 5), .int .u8 (b 6), .int .u8 (b 7), .int .u8 (b 8), .int .u8 (b 9), .int .u8 (b 10), .int .u8 (b 11), .int .u8 (b 12), .int .u8 (b 13), .int .u8 (b 14), .int .u8 (b 15), .string (mkB rtg), .slice A rd.length c] 28)).heap.size by simp]; exact heap_new _ _⟩
  have HS := Kp.mk (HB0.out.alloc HB0.out.size (.cells #[.int .i64 0, .int .i64 0, .bool false] 38))
  have Hg0 : Kp (((w.alloc (.cells #[.string (mkB rn), .int .i64 28, .int .i64 rc, .int .u32 rl, .bool true, .int .u8 (b 0), .int .u8 (b 1), .int .u8 (b 2), .int .u8 (b 3), .int .u8 (b 4), .int .u8 (b 5), .int .u8 (b 6), .int .u8 (b 7), .int .u8 (b 8), .int .u8 (b 9), .int .u8 (b 10), .int .u8 (b 11), .int .u8 (b 12), .int .u8 (b 13), .int .u8 (b 14), .int .u8 (b 15), .string (mkB rtg), .slice A rd.length c] 28)).alloc (.cells #[.int .i64 0, .int .i64 0, .bool false] 38)).heap[w.heap.size]? = some (.cells #[.string (mkB rn), .int .i64 28, .int .i64 rc, .int .u32 rl, .bool true, .int .u8 (b 0), .int .u8 (b 1), .int .u8 (b 2), .int .u8 (b 3), .int .u8 (b 4), .int .u8 (b 5), .int .u8 (b 6), .int .u8 (b 7), .int .u8 (b 8), .int .u8 (b 9), .int .u8 (b 10), .int .u8 (b 11), .int .u8 (b 12), .int .u8 (b 13), .int .u8 (b 14), .int .u8 (b 15), .string (mkB rtg), .slice A rd.length c] 28 (0, 0))) := ⟨(((Below.refl _ _).alloc (Nat.le_refl _) _).block _ (heap_lt Hg.out)).trans Hg.out⟩
  clear Hg HB0
  go_enter Tryz.func16, Tryz.ntmps16
  go_wp2_with (with_reducible refine ld_blk rfl 28 (.tmp 1) rfl w.heap.size rfl Hg0 Tryz.underlying28 rfl (by kernel_rfl) ?_)
  refine t_ (HRR.out _) HS ?_
  intro w1 HB1 HS1
  have Hg1 := Kp.mk ((HB1.out.block _ (heap_lt Hg0.out)).trans Hg0.out)
  have HF1 := Kp.mk ((HB1.out.block _ (heap_lt HF.out)).trans HF.out)
  have c0 := blk_cell Hg1.out 0
  have c1 := blk_cell Hg1.out 1
  have c2 := blk_cell Hg1.out 2
  go_wp2_with (fail)
  refine tw_ (HWQ.out _) (u := .agg #[.int .i64 0, .int .i64 0, .bool false]) rfl HS1 ?_
  intro A2 k2 w2 hc2 HC2 HM2 HB2 HS2
  have Hg2 := Kp.mk ((HB2.out.block _ (heap_lt Hg1.out)).trans Hg1.out)
  have HF2 := Kp.mk ((HB2.out.block _ (heap_lt HF1.out)).trans HF1.out)
  have HS2a := Kp.mk (HS2.out.alloc HS2.out.size (.cells #[.int .i64 0, .int .i64 0, .bool false] 38))
  have hz2 := HS2.out.size
  clear c0 c1 c2
  go_wp2_with (with_reducible refine st_blk (w0 := w) (base := w.heap.size) rfl 38 (.tmp 5) (.tmp 21) rfl rfl w2.heap.size _ rfl rfl ⟨heap_new _ _⟩ (by kernel_rfl) (by kernel_rfl) (by kernel_rfl) HS2a hz2 ?_)
  intro w3 Hf3 HO3 HS3 hs3
  have HN3 := Kp.mk (stored_new HS2.out HS3.out hs3 HO3.out)
  have Hg3 := Kp.mk ((HN3.out.block _ (heap_lt Hg2.out)).trans Hg2.out)
  have HF3 := Kp.mk ((HN3.out.block _ (heap_lt HF2.out)).trans HF2.out)
  have HQ3 := Kp.mk (Kd.C_below HC2.out HN3.out)
  clear hs3 HM2 HC2 hz2
  have d22 := blk_cell Hg3.out 22
  have d1 := blk_cell Hg3.out 1
  go_wp2_with (with_reducible refine ld_mid rfl 26 (.tmp 31) rfl w.heap.size 4 rfl Hg3 Tryz.underlying26 rfl [.bool true, .int .u8 (b 0), .int .u8 (b 1), .int .u8 (b 2), .int .u8 (b 3), .int .u8 (b 4), .int .u8 (b 5), .int .u8 (b 6), .int .u8 (b 7), .int .u8 (b 8), .int .u8 (b 9), .int .u8 (b 10), .int .u8 (b 11), .int .u8 (b 12), .int .u8 (b 13), .int .u8 (b 14), .int .u8 (b 15)] (by kernel_rfl) rfl ?_)
  refine t_ (rsize_calls ⟨true, b⟩ _) HS3 ?_
  intro w4 HB4 HS4
  have Hg4 := Kp.mk ((HB4.out.block _ (heap_lt Hg3.out)).trans Hg3.out)
  have HF4 := Kp.mk ((HB4.out.block _ (heap_lt HF3.out)).trans HF3.out)
  have HQ4 := Kp.mk (Kd.C_below HQ3.out HB4.out)
  clear d22 d1
  have H1 : Kp (∀ W, (Kd.int .u8).C W A2 qs.length qs → Calls Tryz.prog 54 #[.slice A2 qs.length k2, .int .i64 rl, .int .i64 4] W (GivesB (qs ++ be32 rl) W)) := ⟨fun W h => rput4_calls A2 k2 qs rl W h hc2 (by omega) hl0 hl1⟩
  obtain ⟨ys, hys⟩ : ∃ ys, qs ++ be32 rl = ys := ⟨_, rfl⟩
  have hyl : ys.length ≤ 264 := by rw [← hys, List.length_append]; show qs.length + 4 ≤ 264; omega
  rw [hys] at H1
  have H2 : Kp (∀ W A c, (Kd.int .u8).C W A ys.length ys → ys.length ≤ c → Calls Tryz.prog 54 #[.slice A ys.length c, .int .i64 16, .int .i64 2] W (GivesB (ys ++ be16 ((16 : Nat) : Int)) W)) := ⟨fun W A c h hc => rput2_calls A c ys ((16 : Nat) : Int) W h hc (by omega) (by omega) (by omega)⟩
  obtain ⟨zs, hzs⟩ : ∃ zs, ys ++ be16 ((16 : Nat) : Int) = zs := ⟨_, rfl⟩
  have hzl : zs.length ≤ 266 := by rw [← hzs, List.length_append]; show ys.length + 2 ≤ 266; omega
  rw [hzs] at H2
  have HY := Kp.mk hys
  have HZ := Kp.mk hzs
  have HZL := Kp.mk hzl
  have hwl : wrap64 rl = rl := by unfold wrap64; omega
  clear hys hzs hyl hzl hql
  have e3 := blk_cell Hg4.out 3
  go_wp2_with (fail)
  refine tb_ (H1.out _ HQ4.out) HS4 ?_
  intro A7 c7 w7 hc7 HC7 HM7 HB7 HS7
  have HF7 := Kp.mk ((HB7.out.block _ (heap_lt HF4.out)).trans HF4.out)
  have hz7 := heap_lt HF7.out
  have HZ7 := Kp.mk hz7
  clear hz7 e3
  go_wp2_with (fail)
  refine tb_ (H2.out _ _ _ HC7.out hc7) HS7 ?_
  intro A8 c8 w8 hc8 HC8 HM8 HB8 HS8
  have HX8 := Kp.mk (Kd.C_below (Kd.C_below (C_blk (o := 5) Hg4.out (by show (16 : Nat) ≤ 9223372036854775807; decide) (fun j hj => by
    have hj' : j < 16 := hj
    match j, hj' with
    | 0, _ => rfl
    | 1, _ => rfl
    | 2, _ => rfl
    | 3, _ => rfl
    | 4, _ => rfl
    | 5, _ => rfl
    | 6, _ => rfl
    | 7, _ => rfl
    | 8, _ => rfl
    | 9, _ => rfl
    | 10, _ => rfl
    | 11, _ => rfl
    | 12, _ => rfl
    | 13, _ => rfl
    | 14, _ => rfl
    | 15, _ => rfl
    | n + 16, h => exact absurd h (by omega)) : (Kd.int .u8).C w4 (some ⟨w.heap.size, 5, none⟩) 16 [b 0, b 1, b 2, b 3, b 4, b 5, b 6, b 7, b 8, b 9, b 10, b 11, b 12, b 13, b 14, b 15]) HB7.out) HB8.out)
  go_wp2_with (at_builtin; (with_reducible refine gate_builtin (b := .append) (xs := #[.tmp 51, .tmp 52]) rfl ?_); go_must (refine app_bytes (w0 := w7) (base := w7.heap.size) (s := .tmp 51) (x := .tmp 52) (v := .slice A8 zs.length c8) rfl rfl zs ([b 0, b 1, b 2, b 3, b 4, b 5, b 6, b 7, b 8, b 9, b 10, b 11, b 12, b 13, b 14, b 15]) (some ⟨w.heap.size, 5, none⟩) (16) (16) rfl rfl HM8.out HX8.out HB8.out HB8.out.size (by have := HZL.out; omega) ?_))
  intro v9 w9 HR9 HB9 hs9
  have HF9 := Kp.mk ((HB9.out.block _ (heap_lt HF7.out)).trans HF7.out)
  have HS9 := Kp.mk (below_step HS7.out HB9.out)
  go_wp2_with (with_reducible refine st_blk (w0 := w) (base := w.heap.size) rfl 38 (.tmp 3) (.tmp 54) rfl rfl (w.heap.size + 1) _ rfl rfl HF9 (by kernel_rfl) (by kernel_rfl) (by kernel_rfl) HS9 (Nat.le_succ _) ?_)
  intro w10 Hf10 HO10 HS10 hs10
  go_wp2
  refine bodyPost_ret (results_tc rfl _ _ (w.heap.size + 1) 38 #[.int .i64 0, .int .i64 0, .bool false] (0, 0) _ rfl Hf10.out Tryz.underlying38 rfl (by kernel_rfl)) rfl ?_
  exact ⟨v9, rfl, by rw [HY.out, HZ.out]; exact Kd.R_lower (R_stored HR9.out HZ7.out HO10.out) HS7.out.size, HS10.out⟩
theorem rwr_5 (rn rtg : L) (rc rl : Int) (v6 : Bool) (b : Nat → Int) (rd : List Int) (A : Option Addr) (c : Nat) (w : World) (hs : rn.length ≤ 8100) (ht : rtg.length ≤ 8100) (hd : rd.length ≤ 1000) (hl0 : 0 ≤ rl) (hl1 : rl ≤ 4294967295) (hr : Rec.right ⟨rn, 5, rc, rl, ⟨v6, b⟩, rtg, rd⟩ = true) (hq : Qu.right ⟨rn, 5, rc⟩ = true) (hg5 : rightL rtg = true) :
    Calls Tryz.prog 16 #[.agg #[.string (mkB rn), .int .i64 5, .int .i64 rc, .int .u32 rl, .bool v6, .int .u8 (b 0), .int .u8 (b 1), .int .u8 (b 2), .int .u8 (b 3), .int .u8 (b 4), .int .u8 (b 5), .int .u8 (b 6), .int .u8 (b 7), .int .u8 (b 8), .int .u8 (b 9), .int .u8 (b 10), .int .u8 (b 11), .int .u8 (b 12), .int .u8 (b 13), .int .u8 (b 14), .int .u8 (b 15), .string (mkB rtg), .slice A rd.length c]] w (GivesT (Qu.wire ⟨rn, 5, rc⟩ ++ be32 rl ++ be16 (((nameW rtg).length : Nat) : Int) ++ nameW rtg) .none w) := by
  have HRR := Kp.mk (fun W => hr ▸ rrec_right ⟨rn, 5, rc, rl, ⟨v6, b⟩, rtg, rd⟩ A c W hs ht (by show rd.length ≤ _; omega))
  have hql : (Qu.wire ⟨rn, 5, rc⟩).length ≤ 260 := by
    have := nameW_len rn (Qu.right_mk hq).1
    unfold Qu.wire
    simp only [List.length_append]
    show (nameW rn).length + 2 + 2 ≤ 260
    omega
  have HWQ := Kp.mk (fun W => rwq_good ⟨rn, 5, rc⟩ W hs hq)
  obtain ⟨qs, hqs⟩ : ∃ qs, Qu.wire ⟨rn, 5, rc⟩ = qs := ⟨_, rfl⟩
  rw [hqs] at hql HWQ ⊢
  clear hqs hr hq
  have Hg := Kp.mk (heap_new w (.cells #[.string (mkB rn), .int .i64 5, .int .i64 rc, .int .u32 rl, .bool v6, .int .u8 (b 0), .int .u8 (b 1), .int .u8 (b 2), .int .u8 (b 3), .int .u8 (b 4), .int .u8 (b 5), .int .u8 (b 6), .int .u8 (b 7), .int .u8 (b 8), .int .u8 (b 9), .int .u8 (b 10), .int .u8 (b 11), .int .u8 (b 12), .int .u8 (b 13), .int .u8 (b 14), .int .u8 (b 15), .string (mkB rtg), .slice A rd.length c] 28))
  have HB0 := Kp.mk ((Below.refl w.heap.size w).alloc (Nat.le_refl _) (.cells #[.string (mkB rn), .int .i64 5, .int .i64 rc, .int .u32 rl, .bool v6, .int .u8 (b 0), .int .u8 (b 1), .int .u8 (b 2), .int .u8 (b 3), .int .u8 (b 4), .int .u8 (b 5), .int .u8 (b 6), .int .u8 (b 7), .int .u8 (b 8), .int .u8 (b 9), .int .u8 (b 10), .int .u8 (b 11), .int .u8 (b 12), .int .u8 (b 13), .int .u8 (b 14), .int .u8 (b 15), .string (mkB rtg), .slice A rd.length c] 28))
  have HF : Kp (((w.alloc (.cells #[.string (mkB rn), .int .i64 5, .int .i64 rc, .int .u32 rl, .bool v6, .int .u8 (b 0), .int .u8 (b 1), .int .u8 (b 2), .int .u8 (b 3), .int .u8 (b 4), .int .u8 (b 5), .int .u8 (b 6), .int .u8 (b 7), .int .u8 (b 8), .int .u8 (b 9), .int .u8 (b 10), .int .u8 (b 11), .int .u8 (b 12), .int .u8 (b 13), .int .u8 (b 14), .int .u8 (b 15), .string (mkB rtg), .slice A rd.length c] 28)).alloc (.cells #[.int .i64 0, .int .i64 0, .bool false] 38)).heap[w.heap.size + 1]? = some (.cells #[.int .i64 0, .int .i64 0, .bool false] 38 (0, 0))) := ⟨by
    rw [show w.heap.size + 1 = (w.alloc (.cells #[.string (mkB rn), .int .i64 5, .int .i64 rc, .int .u32 rl, .bool v6, .int .u8 (b 0), .int .u8 (b 1), .int .u8 (b 2), .int .u8 (b 3), .int .u8 (b 4), .int .u8 (b 5), .int .u8 (b 6), .int .u8 (b 7), .int .u8 (b 8), .int .u8 (b 9), .int .u8 (b 10), .int .u8 (b 11), .int .u8 (b 12), .int .u8 (b 13), .int .u8 (b 14), .int .u8 (b 15), .string (mkB rtg), .slice A rd.length c] 28)).heap.size by simp]; exact heap_new _ _⟩
  have HS := Kp.mk (HB0.out.alloc HB0.out.size (.cells #[.int .i64 0, .int .i64 0, .bool false] 38))
  have Hg0 : Kp (((w.alloc (.cells #[.string (mkB rn), .int .i64 5, .int .i64 rc, .int .u32 rl, .bool v6, .int .u8 (b 0), .int .u8 (b 1), .int .u8 (b 2), .int .u8 (b 3), .int .u8 (b 4), .int .u8 (b 5), .int .u8 (b 6), .int .u8 (b 7), .int .u8 (b 8), .int .u8 (b 9), .int .u8 (b 10), .int .u8 (b 11), .int .u8 (b 12), .int .u8 (b 13), .int .u8 (b 14), .int .u8 (b 15), .string (mkB rtg), .slice A rd.length c] 28)).alloc (.cells #[.int .i64 0, .int .i64 0, .bool false] 38)).heap[w.heap.size]? = some (.cells #[.string (mkB rn), .int .i64 5, .int .i64 rc, .int .u32 rl, .bool v6, .int .u8 (b 0), .int .u8 (b 1), .int .u8 (b 2), .int .u8 (b 3), .int .u8 (b 4), .int .u8 (b 5), .int .u8 (b 6), .int .u8 (b 7), .int .u8 (b 8), .int .u8 (b 9), .int .u8 (b 10), .int .u8 (b 11), .int .u8 (b 12), .int .u8 (b 13), .int .u8 (b 14), .int .u8 (b 15), .string (mkB rtg), .slice A rd.length c] 28 (0, 0))) := ⟨(((Below.refl _ _).alloc (Nat.le_refl _) _).block _ (heap_lt Hg.out)).trans Hg.out⟩
  clear Hg HB0
  go_enter Tryz.func16, Tryz.ntmps16
  go_wp2_with (with_reducible refine ld_blk rfl 28 (.tmp 1) rfl w.heap.size rfl Hg0 Tryz.underlying28 rfl (by kernel_rfl) ?_)
  refine t_ (HRR.out _) HS ?_
  intro w1 HB1 HS1
  have Hg1 := Kp.mk ((HB1.out.block _ (heap_lt Hg0.out)).trans Hg0.out)
  have HF1 := Kp.mk ((HB1.out.block _ (heap_lt HF.out)).trans HF.out)
  have c0 := blk_cell Hg1.out 0
  have c1 := blk_cell Hg1.out 1
  have c2 := blk_cell Hg1.out 2
  go_wp2_with (fail)
  refine tw_ (HWQ.out _) (u := .agg #[.int .i64 0, .int .i64 0, .bool false]) rfl HS1 ?_
  intro A2 k2 w2 hc2 HC2 HM2 HB2 HS2
  have Hg2 := Kp.mk ((HB2.out.block _ (heap_lt Hg1.out)).trans Hg1.out)
  have HF2 := Kp.mk ((HB2.out.block _ (heap_lt HF1.out)).trans HF1.out)
  have HS2a := Kp.mk (HS2.out.alloc HS2.out.size (.cells #[.int .i64 0, .int .i64 0, .bool false] 38))
  have hz2 := HS2.out.size
  clear c0 c1 c2
  go_wp2_with (with_reducible refine st_blk (w0 := w) (base := w.heap.size) rfl 38 (.tmp 5) (.tmp 21) rfl rfl w2.heap.size _ rfl rfl ⟨heap_new _ _⟩ (by kernel_rfl) (by kernel_rfl) (by kernel_rfl) HS2a hz2 ?_)
  intro w3 Hf3 HO3 HS3 hs3
  have HN3 := Kp.mk (stored_new HS2.out HS3.out hs3 HO3.out)
  have Hg3 := Kp.mk ((HN3.out.block _ (heap_lt Hg2.out)).trans Hg2.out)
  have HF3 := Kp.mk ((HN3.out.block _ (heap_lt HF2.out)).trans HF2.out)
  have HQ3 := Kp.mk (Kd.C_below HC2.out HN3.out)
  clear hs3 HM2 HC2 hz2
  have d22 := blk_cell Hg3.out 22
  have d1 := blk_cell Hg3.out 1
  have d21 := blk_cell Hg3.out 21
  go_wp2_with (fail)
  refine tw_ (rwriteB_good rtg _ ht hg5) (u := .agg #[.int .i64 0, .int .i64 0, .bool false]) rfl HS3 ?_
  intro A6 c6 w4 hc6 Hc6 HM6 HB4 HS4
  have Hg4 := Kp.mk ((HB4.out.block _ (heap_lt Hg3.out)).trans Hg3.out)
  have HF4 := Kp.mk ((HB4.out.block _ (heap_lt HF3.out)).trans HF3.out)
  have HQ4 := Kp.mk (Kd.C_below HQ3.out HB4.out)
  have hnt := nameW_len rtg hg5
  obtain ⟨ns, hns⟩ : ∃ ns, nameW rtg = ns := ⟨_, rfl⟩
  rw [hns] at hnt Hc6 HM6 hc6 ⊢
  have HNS := Kp.mk hns
  clear d22 d1 d21 hns
  have H1 : Kp (∀ W, (Kd.int .u8).C W A2 qs.length qs → Calls Tryz.prog 54 #[.slice A2 qs.length k2, .int .i64 rl, .int .i64 4] W (GivesB (qs ++ be32 rl) W)) := ⟨fun W h => rput4_calls A2 k2 qs rl W h hc2 (by omega) hl0 hl1⟩
  obtain ⟨ys, hys⟩ : ∃ ys, qs ++ be32 rl = ys := ⟨_, rfl⟩
  have hyl : ys.length ≤ 264 := by rw [← hys, List.length_append]; show qs.length + 4 ≤ 264; omega
  rw [hys] at H1
  have H2 : Kp (∀ W A c, (Kd.int .u8).C W A ys.length ys → ys.length ≤ c → Calls Tryz.prog 54 #[.slice A ys.length c, .int .i64 (ns.length : Int), .int .i64 2] W (GivesB (ys ++ be16 ((ns.length : Nat) : Int)) W)) := ⟨fun W A c h hc => rput2_calls A c ys ((ns.length : Nat) : Int) W h hc (by omega) (by omega) (by omega)⟩
  obtain ⟨zs, hzs⟩ : ∃ zs, ys ++ be16 ((ns.length : Nat) : Int) = zs := ⟨_, rfl⟩
  have hzl : zs.length ≤ 266 := by rw [← hzs, List.length_append]; show ys.length + 2 ≤ 266; omega
  rw [hzs] at H2
  have HY := Kp.mk hys
  have HZ := Kp.mk hzs
  have HZL := Kp.mk hzl
  have hwl : wrap64 rl = rl := by unfold wrap64; omega
  clear hys hzs hyl hzl hql
  have e3 := blk_cell Hg4.out 3
  go_wp2_with (fail)
  refine tb_ (H1.out _ HQ4.out) HS4 ?_
  intro A7 c7 w7 hc7 HC7 HM7 HB7 HS7
  have HF7 := Kp.mk ((HB7.out.block _ (heap_lt HF4.out)).trans HF4.out)
  have hz7 := heap_lt HF7.out
  have HZ7 := Kp.mk hz7
  clear hz7 e3
  go_wp2_with (fail)
  refine tb_ (H2.out _ _ _ HC7.out hc7) HS7 ?_
  intro A8 c8 w8 hc8 HC8 HM8 HB8 HS8
  have HX8 := Kp.mk (Kd.C_below (Kd.C_below Hc6.out HB7.out) HB8.out)
  go_wp2_with (at_builtin; (with_reducible refine gate_builtin (b := .append) (xs := #[.tmp 51, .tmp 52]) rfl ?_); go_must (refine app_bytes (w0 := w7) (base := w7.heap.size) (s := .tmp 51) (x := .tmp 52) (v := .slice A8 zs.length c8) rfl rfl zs (ns) (A6) (ns.length) (c6) rfl rfl HM8.out HX8.out HB8.out HB8.out.size (by have := HZL.out; omega) ?_))
  intro v9 w9 HR9 HB9 hs9
  have HF9 := Kp.mk ((HB9.out.block _ (heap_lt HF7.out)).trans HF7.out)
  have HS9 := Kp.mk (below_step HS7.out HB9.out)
  go_wp2_with (with_reducible refine st_blk (w0 := w) (base := w.heap.size) rfl 38 (.tmp 3) (.tmp 54) rfl rfl (w.heap.size + 1) _ rfl rfl HF9 (by kernel_rfl) (by kernel_rfl) (by kernel_rfl) HS9 (Nat.le_succ _) ?_)
  intro w10 Hf10 HO10 HS10 hs10
  go_wp2
  refine bodyPost_ret (results_tc rfl _ _ (w.heap.size + 1) 38 #[.int .i64 0, .int .i64 0, .bool false] (0, 0) _ rfl Hf10.out Tryz.underlying38 rfl (by kernel_rfl)) rfl ?_
  exact ⟨v9, rfl, by rw [HNS.out, HY.out, HZ.out]; exact Kd.R_lower (R_stored HR9.out HZ7.out HO10.out) HS7.out.size, HS10.out⟩
theorem rwr_o (rn rtg : L) (rt rc rl : Int) (v6 : Bool) (b : Nat → Int) (rd : List Int) (A : Option Addr) (c : Nat) (w : World) (hs : rn.length ≤ 8100) (ht : rtg.length ≤ 8100) (hd : rd.length ≤ 1000) (hl0 : 0 ≤ rl) (hl1 : rl ≤ 4294967295) (hr : Rec.right ⟨rn, rt, rc, rl, ⟨v6, b⟩, rtg, rd⟩ = true) (hq : Qu.right ⟨rn, rt, rc⟩ = true) (h1 : rt ≠ 1) (h28 : rt ≠ 28) (h5 : rt ≠ 5) (h : (Kd.int .u8).C w A rd.length rd) (hcd : rd.length ≤ c) :
    Calls Tryz.prog 16 #[.agg #[.string (mkB rn), .int .i64 rt, .int .i64 rc, .int .u32 rl, .bool v6, .int .u8 (b 0), .int .u8 (b 1), .int .u8 (b 2), .int .u8 (b 3), .int .u8 (b 4), .int .u8 (b 5), .int .u8 (b 6), .int .u8 (b 7), .int .u8 (b 8), .int .u8 (b 9), .int .u8 (b 10), .int .u8 (b 11), .int .u8 (b 12), .int .u8 (b 13), .int .u8 (b 14), .int .u8 (b 15), .string (mkB rtg), .slice A rd.length c]] w (GivesT (Qu.wire ⟨rn, rt, rc⟩ ++ be32 rl ++ be16 ((rd.length : Nat) : Int) ++ rd) .none w) := by
  have HRR := Kp.mk (fun W => hr ▸ rrec_right ⟨rn, rt, rc, rl, ⟨v6, b⟩, rtg, rd⟩ A c W hs ht (by show rd.length ≤ _; omega))
  have hql : (Qu.wire ⟨rn, rt, rc⟩).length ≤ 260 := by
    have := nameW_len rn (Qu.right_mk hq).1
    unfold Qu.wire
    simp only [List.length_append]
    show (nameW rn).length + 2 + 2 ≤ 260
    omega
  have HWQ := Kp.mk (fun W => rwq_good ⟨rn, rt, rc⟩ W hs hq)
  obtain ⟨qs, hqs⟩ : ∃ qs, Qu.wire ⟨rn, rt, rc⟩ = qs := ⟨_, rfl⟩
  rw [hqs] at hql HWQ ⊢
  clear hqs hr hq
  have b1 : (rt == 1) = false := by simpa using h1
  have b28 : (rt == 28) = false := by simpa using h28
  have b5 : (rt == 5) = false := by simpa using h5
  have HC := Kp.mk h
  clear h1 h28 h5 h
  have Hg := Kp.mk (heap_new w (.cells #[.string (mkB rn), .int .i64 rt, .int .i64 rc, .int .u32 rl, .bool v6, .int .u8 (b 0), .int .u8 (b 1), .int .u8 (b 2), .int .u8 (b 3), .int .u8 (b 4), .int .u8 (b 5), .int .u8 (b 6), .int .u8 (b 7), .int .u8 (b 8), .int .u8 (b 9), .int .u8 (b 10), .int .u8 (b 11), .int .u8 (b 12), .int .u8 (b 13), .int .u8 (b 14), .int .u8 (b 15), .string (mkB rtg), .slice A rd.length c] 28))
  have HB0 := Kp.mk ((Below.refl w.heap.size w).alloc (Nat.le_refl _) (.cells #[.string (mkB rn), .int .i64 rt, .int .i64 rc, .int .u32 rl, .bool v6, .int .u8 (b 0), .int .u8 (b 1), .int .u8 (b 2), .int .u8 (b 3), .int .u8 (b 4), .int .u8 (b 5), .int .u8 (b 6), .int .u8 (b 7), .int .u8 (b 8), .int .u8 (b 9), .int .u8 (b 10), .int .u8 (b 11), .int .u8 (b 12), .int .u8 (b 13), .int .u8 (b 14), .int .u8 (b 15), .string (mkB rtg), .slice A rd.length c] 28))
  have HF : Kp (((w.alloc (.cells #[.string (mkB rn), .int .i64 rt, .int .i64 rc, .int .u32 rl, .bool v6, .int .u8 (b 0), .int .u8 (b 1), .int .u8 (b 2), .int .u8 (b 3), .int .u8 (b 4), .int .u8 (b 5), .int .u8 (b 6), .int .u8 (b 7), .int .u8 (b 8), .int .u8 (b 9), .int .u8 (b 10), .int .u8 (b 11), .int .u8 (b 12), .int .u8 (b 13), .int .u8 (b 14), .int .u8 (b 15), .string (mkB rtg), .slice A rd.length c] 28)).alloc (.cells #[.int .i64 0, .int .i64 0, .bool false] 38)).heap[w.heap.size + 1]? = some (.cells #[.int .i64 0, .int .i64 0, .bool false] 38 (0, 0))) := ⟨by
    rw [show w.heap.size + 1 = (w.alloc (.cells #[.string (mkB rn), .int .i64 rt, .int .i64 rc, .int .u32 rl, .bool v6, .int .u8 (b 0), .int .u8 (b 1), .int .u8 (b 2), .int .u8 (b 3), .int .u8 (b 4), .int .u8 (b 5), .int .u8 (b 6), .int .u8 (b 7), .int .u8 (b 8), .int .u8 (b 9), .int .u8 (b 10), .int .u8 (b 11), .int .u8 (b 12), .int .u8 (b 13), .int .u8 (b 14), .int .u8 (b 15), .string (mkB rtg), .slice A rd.length c] 28)).heap.size by simp]; exact heap_new _ _⟩
  have HS := Kp.mk (HB0.out.alloc HB0.out.size (.cells #[.int .i64 0, .int .i64 0, .bool false] 38))
  have Hg0 : Kp (((w.alloc (.cells #[.string (mkB rn), .int .i64 rt, .int .i64 rc, .int .u32 rl, .bool v6, .int .u8 (b 0), .int .u8 (b 1), .int .u8 (b 2), .int .u8 (b 3), .int .u8 (b 4), .int .u8 (b 5), .int .u8 (b 6), .int .u8 (b 7), .int .u8 (b 8), .int .u8 (b 9), .int .u8 (b 10), .int .u8 (b 11), .int .u8 (b 12), .int .u8 (b 13), .int .u8 (b 14), .int .u8 (b 15), .string (mkB rtg), .slice A rd.length c] 28)).alloc (.cells #[.int .i64 0, .int .i64 0, .bool false] 38)).heap[w.heap.size]? = some (.cells #[.string (mkB rn), .int .i64 rt, .int .i64 rc, .int .u32 rl, .bool v6, .int .u8 (b 0), .int .u8 (b 1), .int .u8 (b 2), .int .u8 (b 3), .int .u8 (b 4), .int .u8 (b 5), .int .u8 (b 6), .int .u8 (b 7), .int .u8 (b 8), .int .u8 (b 9), .int .u8 (b 10), .int .u8 (b 11), .int .u8 (b 12), .int .u8 (b 13), .int .u8 (b 14), .int .u8 (b 15), .string (mkB rtg), .slice A rd.length c] 28 (0, 0))) := ⟨(((Below.refl _ _).alloc (Nat.le_refl _) _).block _ (heap_lt Hg.out)).trans Hg.out⟩
  clear Hg HB0
  go_enter Tryz.func16, Tryz.ntmps16
  go_wp2_with (with_reducible refine ld_blk rfl 28 (.tmp 1) rfl w.heap.size rfl Hg0 Tryz.underlying28 rfl (by kernel_rfl) ?_)
  refine t_ (HRR.out _) HS ?_
  intro w1 HB1 HS1
  have Hg1 := Kp.mk ((HB1.out.block _ (heap_lt Hg0.out)).trans Hg0.out)
  have HF1 := Kp.mk ((HB1.out.block _ (heap_lt HF.out)).trans HF.out)
  have c0 := blk_cell Hg1.out 0
  have c1 := blk_cell Hg1.out 1
  have c2 := blk_cell Hg1.out 2
  go_wp2_with (fail)
  refine tw_ (HWQ.out _) (u := .agg #[.int .i64 0, .int .i64 0, .bool false]) rfl HS1 ?_
  intro A2 k2 w2 hc2 HC2 HM2 HB2 HS2
  have Hg2 := Kp.mk ((HB2.out.block _ (heap_lt Hg1.out)).trans Hg1.out)
  have HF2 := Kp.mk ((HB2.out.block _ (heap_lt HF1.out)).trans HF1.out)
  have HS2a := Kp.mk (HS2.out.alloc HS2.out.size (.cells #[.int .i64 0, .int .i64 0, .bool false] 38))
  have hz2 := HS2.out.size
  clear c0 c1 c2
  go_wp2_with (with_reducible refine st_blk (w0 := w) (base := w.heap.size) rfl 38 (.tmp 5) (.tmp 21) rfl rfl w2.heap.size _ rfl rfl ⟨heap_new _ _⟩ (by kernel_rfl) (by kernel_rfl) (by kernel_rfl) HS2a hz2 ?_)
  intro w3 Hf3 HO3 HS3 hs3
  have HN3 := Kp.mk (stored_new HS2.out HS3.out hs3 HO3.out)
  have Hg3 := Kp.mk ((HN3.out.block _ (heap_lt Hg2.out)).trans Hg2.out)
  have HF3 := Kp.mk ((HN3.out.block _ (heap_lt HF2.out)).trans HF2.out)
  have HQ3 := Kp.mk (Kd.C_below HC2.out HN3.out)
  clear hs3 HM2 HC2 hz2
  have d22 := blk_cell Hg3.out 22
  have d1 := blk_cell Hg3.out 1
  have H1 : Kp (∀ W, (Kd.int .u8).C W A2 qs.length qs → Calls Tryz.prog 54 #[.slice A2 qs.length k2, .int .i64 rl, .int .i64 4] W (GivesB (qs ++ be32 rl) W)) := ⟨fun W h => rput4_calls A2 k2 qs rl W h hc2 (by omega) hl0 hl1⟩
  obtain ⟨ys, hys⟩ : ∃ ys, qs ++ be32 rl = ys := ⟨_, rfl⟩
  have hyl : ys.length ≤ 264 := by rw [← hys, List.length_append]; show qs.length + 4 ≤ 264; omega
  rw [hys] at H1
  have H2 : Kp (∀ W A c, (Kd.int .u8).C W A ys.length ys → ys.length ≤ c → Calls Tryz.prog 54 #[.slice A ys.length c, .int .i64 (rd.length : Int), .int .i64 2] W (GivesB (ys ++ be16 ((rd.length : Nat) : Int)) W)) := ⟨fun W A c h hc => rput2_calls A c ys ((rd.length : Nat) : Int) W h hc (by omega) (by omega) (by omega)⟩
  obtain ⟨zs, hzs⟩ : ∃ zs, ys ++ be16 ((rd.length : Nat) : Int) = zs := ⟨_, rfl⟩
  have hzl : zs.length ≤ 266 := by rw [← hzs, List.length_append]; show ys.length + 2 ≤ 266; omega
  rw [hzs] at H2
  have HY := Kp.mk hys
  have HZ := Kp.mk hzs
  have HZL := Kp.mk hzl
  have hwl : wrap64 rl = rl := by unfold wrap64; omega
  clear hys hzs hyl hzl hql
  have e3 := blk_cell Hg3.out 3
  go_wp2_with (fail)
  refine tb_ (H1.out _ HQ3.out) HS3 ?_
  intro A7 c7 w7 hc7 HC7 HM7 HB7 HS7
  have HF7 := Kp.mk ((HB7.out.block _ (heap_lt HF3.out)).trans HF3.out)
  have hz7 := heap_lt HF7.out
  have HZ7 := Kp.mk hz7
  clear hz7 e3
  go_wp2_with (fail)
  refine tb_ (H2.out _ _ _ HC7.out hc7) HS7 ?_
  intro A8 c8 w8 hc8 HC8 HM8 HB8 HS8
  have HX8 := Kp.mk (Kd.C_below (Kd.C_below (Kd.C_below HC.out HS3.out) HB7.out) HB8.out)
  go_wp2_with (at_builtin; (with_reducible refine gate_builtin (b := .append) (xs := #[.tmp 51, .tmp 52]) rfl ?_); go_must (refine app_bytes (w0 := w7) (base := w7.heap.size) (s := .tmp 51) (x := .tmp 52) (v := .slice A8 zs.length c8) rfl rfl zs (rd) (A) (rd.length) (c) rfl rfl HM8.out HX8.out HB8.out HB8.out.size (by have := HZL.out; omega) ?_))
  intro v9 w9 HR9 HB9 hs9
  have HF9 := Kp.mk ((HB9.out.block _ (heap_lt HF7.out)).trans HF7.out)
  have HS9 := Kp.mk (below_step HS7.out HB9.out)
  go_wp2_with (with_reducible refine st_blk (w0 := w) (base := w.heap.size) rfl 38 (.tmp 3) (.tmp 54) rfl rfl (w.heap.size + 1) _ rfl rfl HF9 (by kernel_rfl) (by kernel_rfl) (by kernel_rfl) HS9 (Nat.le_succ _) ?_)
  intro w10 Hf10 HO10 HS10 hs10
  go_wp2
  refine bodyPost_ret (results_tc rfl _ _ (w.heap.size + 1) 38 #[.int .i64 0, .int .i64 0, .bool false] (0, 0) _ rfl Hf10.out Tryz.underlying38 rfl (by kernel_rfl)) rfl ?_
  exact ⟨v9, rfl, by rw [HY.out, HZ.out]; exact Kd.R_lower (R_stored HR9.out HZ7.out HO10.out) HS7.out.size, HS10.out⟩
theorem rwr_bad (r : Rec) (A : Option Addr) (c : Nat) (w : World) (hs : r.name.length ≤ 8100) (ht : r.tgt.length ≤ 8100) (hd : r.data.length ≤ 9223372036854775807) (hr : r.right = false) :
    Calls Tryz.prog 16 #[.agg (recA r (.slice A r.data.length c))] w (GivesT [] (.code 1) w) := by
  obtain ⟨rn, rt, rc, rl, ⟨v6, b⟩, rtg, rd⟩ := r
  exact rwr_bad0 rn rtg rt rc rl v6 b rd A c w hs ht hd hr
theorem rwr_good (r : Rec) (A : Option Addr) (c : Nat) (w : World) (h : (Kd.int .u8).C w A r.data.length r.data) (hc : r.data.length ≤ c) (hr : r.right = true) (hs : r.name.length ≤ 8100) (ht : r.tgt.length ≤ 8100) (hl0 : 0 ≤ r.ttl) (hl1 : r.ttl ≤ 4294967295) :
    Calls Tryz.prog 16 #[.agg (recA r (.slice A r.data.length c))] w (GivesT r.wire .none w) := by
  have hR := right_T r
  have hd : r.data.length ≤ 1000 := by
    have hrr := hr
    unfold Rec.right at hrr
    simp only [Bool.and_eq_true, decide_eq_true_eq] at hrr
    exact hrr.2.2.1
  have hq : Qu.right ⟨r.name, r.typ, r.cls⟩ = true := by
    have hrr := hr
    unfold Rec.right at hrr
    simp only [Bool.and_eq_true] at hrr
    exact hrr.1
  rw [hr] at hR
  have hT : r.tailT = true := by
    have := hR.symm
    simp only [Bool.and_eq_true] at this
    exact this.2.2.2
  clear hR
  obtain ⟨rn, rt, rc, rl, ⟨v6, b⟩, rtg, rd⟩ := r
  dsimp only at hs ht hd hq hl0 hl1 h hc
  have hw : Rec.wire ⟨rn, rt, rc, rl, ⟨v6, b⟩, rtg, rd⟩ = Qu.wire ⟨rn, rt, rc⟩ ++ be32 rl ++ be16 (Rec.body ⟨rn, rt, rc, rl, ⟨v6, b⟩, rtg, rd⟩).length ++ Rec.body ⟨rn, rt, rc, rl, ⟨v6, b⟩, rtg, rd⟩ := rfl
  rw [hw]
  clear hw
  unfold Rec.tailT at hT
  dsimp only at hT
  by_cases h1 : rt = 1
  · subst h1
    rw [if_pos (.inl rfl)] at hT
    simp only [Bool.and_eq_true, decide_eq_true_eq, beq_iff_eq] at hT
    obtain ⟨-, hv, -, hz⟩ := hT
    obtain rfl : v6 = false := by simpa using hv
    obtain rfl : rd = [] := List.length_eq_zero_iff.1 hz
    have hb : Rec.body ⟨rn, 1, rc, rl, ⟨false, b⟩, rtg, []⟩ = [b 0, b 1, b 2, b 3] := rfl
    rw [hb]
    exact rwr_1 rn rtg rc rl b [] A c w hs ht (by decide) hl0 hl1 hr hq
  · by_cases h28 : rt = 28
    · subst h28
      rw [if_pos (.inr rfl)] at hT
      simp only [Bool.and_eq_true, decide_eq_true_eq, beq_iff_eq] at hT
      obtain ⟨-, hv, -, hz⟩ := hT
      obtain rfl : v6 = true := by simpa using hv
      obtain rfl : rd = [] := List.length_eq_zero_iff.1 hz
      have hb : Rec.body ⟨rn, 28, rc, rl, ⟨true, b⟩, rtg, []⟩ = [b 0, b 1, b 2, b 3, b 4, b 5, b 6, b 7, b 8, b 9, b 10, b 11, b 12, b 13, b 14, b 15] := rfl
      rw [hb]
      exact rwr_28 rn rtg rc rl b [] A c w hs ht (by decide) hl0 hl1 hr hq
    · by_cases h5 : rt = 5
      · subst h5
        rw [if_neg (by decide), if_pos rfl] at hT
        simp only [Bool.and_eq_true, decide_eq_true_eq] at hT
        have hb : Rec.body ⟨rn, 5, rc, rl, ⟨v6, b⟩, rtg, rd⟩ = nameW rtg := rfl
        rw [hb]
        exact rwr_5 rn rtg rc rl v6 b rd A c w hs ht hd hl0 hl1 hr hq hT.1
      · have hsz : szT rt = 0 := by unfold szT; rw [if_neg h28, if_neg h1]
        have hb : Rec.body ⟨rn, rt, rc, rl, ⟨v6, b⟩, rtg, rd⟩ = rd := by
          unfold Rec.body
          dsimp only
          rw [if_neg h5, hsz]
          rfl
        rw [hb]
        exact rwr_o rn rtg rt rc rl v6 b rd A c w hs ht hd hl0 hl1 hr hq h1 h28 h5 h hc
end Go.Proofs.YtlkneoednkhleaaGreatDoor

