/-
  The law RecordRefuses: what a record's type has not may not be there; nor names that are none, nor numbers that are too great: the walk.
-/
import Derived.Test.YtclgffblfjhciaaGreatDoorZRfA
import Derived.Test.YtclgffblfjhciaaGreatDoorZRecF
import Derived.Test.YtclgffblfjhciaaGreatDoorZPlayS
import Derived.Test.YtclgffblfjhciaaGreatDoorGs
import Derived.Test.YtclgffblfjhciaaGreatDoorZOpenRec
namespace Go.Proofs.YtclgffblfjhciaaGreatDoor
open Go.RowKit Go.Proofs.YtclgffblfjhciaaGreatDoorW.PrintWords
set_option linter.unusedVariables false
set_option linter.unusedSimpArgs false
set_option maxRecDepth 100000
set_option maxHeartbeats 1000000

theorem playR_lens (r : Rec) : (playR r).name.length ≤ 60 ∧ (playR r).tgt.length ≤ 60 ∧ (playR r).data.length ≤ 40 := by
  refine ⟨(playN_right r.name).2, ?_, ?_⟩
  · unfold playR
    dsimp only
    split
    · exact (playN_right r.tgt).2
    · decide
  · unfold playR
    dsimp only
    split
    · decide
    · rw [List.length_take]; omega
theorem recordRefuses0 (w : World) (r : Rec) (A : Option Addr) (c : Nat) (hC : (Kd.int .u8).C w A r.data.length r.data) (hc : r.data.length ≤ c) (hw : r.fit) (a : Int) (hk : (IntKind.u64.wrap a).tmod 6 = 0) (hE : Env w) :
    Calls Tryz.prog 4 #[.agg (recA r (.slice A r.data.length c)), .int .i64 a] w fun e w' => e = .returned (.bool true) ∧ Below w.heap.size w w' := by
  have hname := hw.name
  have htgt := hw.tgt
  have HRT := Kp.mk (playR_right r)
  obtain ⟨hl1, hl2, hl3⟩ := playR_lens r
  have HP := Kp.mk (fun (W : World) (h : (Kd.int .u8).C W A r.data.length r.data) => playRec_calls r A c W h hc hname htgt)
  obtain ⟨pr, hpr⟩ : ∃ pr, playR r = pr := ⟨_, rfl⟩
  rw [hpr] at HRT hl1 hl2 hl3 HP
  obtain ⟨pn, pt, pc, pl, ⟨pv, pb⟩, pg, pd⟩ := pr
  obtain ⟨rn, rt, rc, rl, ⟨v6, b⟩, rtg, rd⟩ := r
  show Calls Tryz.prog 4 #[.agg #[.string (mkB rn), .int .i64 rt, .int .i64 rc, .int .u32 rl, .bool v6, .int .u8 (b 0), .int .u8 (b 1), .int .u8 (b 2), .int .u8 (b 3), .int .u8 (b 4), .int .u8 (b 5), .int .u8 (b 6), .int .u8 (b 7), .int .u8 (b 8), .int .u8 (b 9), .int .u8 (b 10), .int .u8 (b 11), .int .u8 (b 12), .int .u8 (b 13), .int .u8 (b 14), .int .u8 (b 15), .string (mkB rtg), .slice A rd.length c], .int .i64 a] w fun e w' => e = .returned (.bool true) ∧ Below w.heap.size w w'
  have HS0 := Kp.mk (St.start hE)
  have HS := Kp.mk ((St.start hE).alloc (.cells #[.string (mkB rn), .int .i64 rt, .int .i64 rc, .int .u32 rl, .bool v6, .int .u8 (b 0), .int .u8 (b 1), .int .u8 (b 2), .int .u8 (b 3), .int .u8 (b 4), .int .u8 (b 5), .int .u8 (b 6), .int .u8 (b 7), .int .u8 (b 8), .int .u8 (b 9), .int .u8 (b 10), .int .u8 (b 11), .int .u8 (b 12), .int .u8 (b 13), .int .u8 (b 14), .int .u8 (b 15), .string (mkB rtg), .slice A rd.length c] 37))
  have Hg := Kp.mk (heap_new w (.cells #[.string (mkB rn), .int .i64 rt, .int .i64 rc, .int .u32 rl, .bool v6, .int .u8 (b 0), .int .u8 (b 1), .int .u8 (b 2), .int .u8 (b 3), .int .u8 (b 4), .int .u8 (b 5), .int .u8 (b 6), .int .u8 (b 7), .int .u8 (b 8), .int .u8 (b 9), .int .u8 (b 10), .int .u8 (b 11), .int .u8 (b 12), .int .u8 (b 13), .int .u8 (b 14), .int .u8 (b 15), .string (mkB rtg), .slice A rd.length c] 37))
  have HC := Kp.mk (Kd.C_below hC HS.out.below)
  dsimp only at hl1 hl2 hl3
  have hl1' : pn.length < 4294967281 := by omega
  have hl2' : pg.length < 4294967281 := by omega
  have hl3' : pd.length ≤ 9223372036854775807 := by omega
  clear hE hC hw hpr hname htgt hl1 hl2 hl3 hc
  go_enter Tryz.func4, Tryz.ntmps4
  go_wp2_with (with_reducible refine ld_blk rfl 37 (.tmp 2) rfl w.heap.size rfl Hg Tryz.underlying37 rfl (by kernel_rfl) ?_)
  refine (HP.out _ HC.out).mono ?_
  rintro e1 w1 ⟨A1, c1, rfl, hR1, hB1⟩
  have Hg1 := Kp.mk ((hB1.block _ (heap_lt Hg.out)).trans Hg.out)
  have HS1 := Kp.mk (HS.out.step hB1)
  have HL1 := Kp.mk HS1.out.below
  clear hR1 hB1
  go_wp2_with (with_reducible refine st_blk (w0 := w) (base := w.heap.size) rfl 37 (.tmp 2) (.tmp 8) rfl rfl w.heap.size _ rfl rfl Hg1 (by kernel_rfl) (by kernel_rfl) (by kernel_rfl) HL1 (Nat.le_refl _) ?_)
  intro w2 Hg2 HO2 HB2 hs2
  have HS2 : Kp (St w w2) := ⟨⟨HB2.out, HS0.out.env.below HB2.out⟩⟩
  clear hs2 HO2 HB2 HL1
  go_wp2_with (fail)
  refine b_ (awake13_calls _ HS2.out.env) HS2 ?_
  intro w3 HB3 HS3
  have Hg3 := Kp.mk ((HB3.out.block _ (heap_lt Hg2.out)).trans Hg2.out)
  go_wp2_with (with_reducible refine ld_blkG (by kernel_rfl) 37 (.tmp 2) rfl w.heap.size rfl Hg3 Tryz.underlying37 rfl (by kernel_rfl) ?_)
  refine b_ (rightRec_calls ⟨pn, pt, pc, pl, ⟨pv, pb⟩, pg, pd⟩ A1 c1 _ HS3.out.env hl1' hl2' hl3') HS3 ?_
  intro w4 HB4 HS4
  rw [HRT.out]
  have Hg4 : Kp (w4.heap[w.heap.size]? = some (.cells (recA ⟨pn, pt, pc, pl, ⟨pv, pb⟩, pg, pd⟩ (.slice A1 pd.length c1)) 37 (0, 0))) := ⟨(HB4.out.block _ (heap_lt Hg3.out)).trans Hg3.out⟩
  have d0 := blk_cell Hg4.out 0
  have f0 := blk_frozen Hg4.out 0
  have Hg5 : Kp ((w4.setCell ⟨w.heap.size, 0, none⟩ (.string ⟨#[65]⟩)).heap[w.heap.size]? = some (.cells (recA ⟨[65], pt, pc, pl, ⟨pv, pb⟩, pg, pd⟩ (.slice A1 pd.length c1)) 37 (0, 0))) := ⟨(blk_put Hg4.out 0 (.string ⟨#[65]⟩) rfl)⟩
  have HB5 : Kp (Below w.heap.size w (w4.setCell ⟨w.heap.size, 0, none⟩ (.string ⟨#[65]⟩))) := ⟨(HS4.out.below.setCell (p := ⟨w.heap.size, 0, none⟩) (Nat.le_refl _) (.string ⟨#[65]⟩))⟩
  have HS5 : Kp (St w (w4.setCell ⟨w.heap.size, 0, none⟩ (.string ⟨#[65]⟩))) := ⟨⟨HB5.out, HS0.out.env.below HB5.out⟩⟩
  go_wp2_with ((with_reducible refine ld_blk rfl 37 (.tmp 2) rfl w.heap.size rfl Hg5 Tryz.underlying37 rfl (by kernel_rfl) ?_))
  refine g2_ (wr_bad ⟨[65], pt, pc, pl, ⟨pv, pb⟩, pg, pd⟩ A1 c1 _ HS5.out.env (Nat.le_of_ble_eq_true rfl) hl2' hl3' (bad0 pt pc pl ⟨pv, pb⟩ pg pd)) HS5 ?_
  intro v6' v6e w6 HM6 HE6 HB6 HS6
  obtain ⟨A6, c6, rfl, -, -⟩ := slice_open (bytesK.K_of_M HM6.out)
  obtain rfl := er_open_code (erK.K_of_M HE6.out)
  have Hg6 := Kp.mk ((HB6.out.block _ (heap_lt Hg5.out)).trans Hg5.out)
  clear HM6 HE6
  go_wp2_with (with_reducible refine ld_blk rfl 37 (.tmp 2) rfl w.heap.size rfl Hg6 Tryz.underlying37 rfl (by kernel_rfl) ?_)
  have hrr := rightRec_calls ⟨[65], pt, pc, pl, ⟨pv, pb⟩, pg, pd⟩ A1 c1 w6 HS6.out.env (Nat.le_of_ble_eq_true rfl) hl2' hl3'
  rw [bad0 pt pc pl ⟨pv, pb⟩ pg pd] at hrr
  refine b_ hrr HS6 ?_
  clear hrr
  intro w7 HB7 HS7
  go_wp2_with (fail)
  refine b_ (bare_calls 1 _) HS7 ?_
  intro w8 HB8 HS8
  go_wp2_with (fail)
  refine b_ (same_calls (.code 1) _ _ ⟨_, rfl, rfl⟩ HS8.out.env (.inr (by decide))) HS8 ?_
  intro w9 HB9 HS9
  go_wp2
  go_ret
  exact ⟨rfl, HS9.out.below⟩
theorem recordRefuses1 (w : World) (r : Rec) (A : Option Addr) (c : Nat) (hC : (Kd.int .u8).C w A r.data.length r.data) (hc : r.data.length ≤ c) (hw : r.fit) (a : Int) (hk : (IntKind.u64.wrap a).tmod 6 = 1) (hE : Env w) :
    Calls Tryz.prog 4 #[.agg (recA r (.slice A r.data.length c)), .int .i64 a] w fun e w' => e = .returned (.bool true) ∧ Below w.heap.size w w' := by
  have hname := hw.name
  have htgt := hw.tgt
  have HRT := Kp.mk (playR_right r)
  obtain ⟨hl1, hl2, hl3⟩ := playR_lens r
  have HP := Kp.mk (fun (W : World) (h : (Kd.int .u8).C W A r.data.length r.data) => playRec_calls r A c W h hc hname htgt)
  obtain ⟨pr, hpr⟩ : ∃ pr, playR r = pr := ⟨_, rfl⟩
  rw [hpr] at HRT hl1 hl2 hl3 HP
  obtain ⟨pn, pt, pc, pl, ⟨pv, pb⟩, pg, pd⟩ := pr
  obtain ⟨rn, rt, rc, rl, ⟨v6, b⟩, rtg, rd⟩ := r
  show Calls Tryz.prog 4 #[.agg #[.string (mkB rn), .int .i64 rt, .int .i64 rc, .int .u32 rl, .bool v6, .int .u8 (b 0), .int .u8 (b 1), .int .u8 (b 2), .int .u8 (b 3), .int .u8 (b 4), .int .u8 (b 5), .int .u8 (b 6), .int .u8 (b 7), .int .u8 (b 8), .int .u8 (b 9), .int .u8 (b 10), .int .u8 (b 11), .int .u8 (b 12), .int .u8 (b 13), .int .u8 (b 14), .int .u8 (b 15), .string (mkB rtg), .slice A rd.length c], .int .i64 a] w fun e w' => e = .returned (.bool true) ∧ Below w.heap.size w w'
  have HS0 := Kp.mk (St.start hE)
  have HS := Kp.mk ((St.start hE).alloc (.cells #[.string (mkB rn), .int .i64 rt, .int .i64 rc, .int .u32 rl, .bool v6, .int .u8 (b 0), .int .u8 (b 1), .int .u8 (b 2), .int .u8 (b 3), .int .u8 (b 4), .int .u8 (b 5), .int .u8 (b 6), .int .u8 (b 7), .int .u8 (b 8), .int .u8 (b 9), .int .u8 (b 10), .int .u8 (b 11), .int .u8 (b 12), .int .u8 (b 13), .int .u8 (b 14), .int .u8 (b 15), .string (mkB rtg), .slice A rd.length c] 37))
  have Hg := Kp.mk (heap_new w (.cells #[.string (mkB rn), .int .i64 rt, .int .i64 rc, .int .u32 rl, .bool v6, .int .u8 (b 0), .int .u8 (b 1), .int .u8 (b 2), .int .u8 (b 3), .int .u8 (b 4), .int .u8 (b 5), .int .u8 (b 6), .int .u8 (b 7), .int .u8 (b 8), .int .u8 (b 9), .int .u8 (b 10), .int .u8 (b 11), .int .u8 (b 12), .int .u8 (b 13), .int .u8 (b 14), .int .u8 (b 15), .string (mkB rtg), .slice A rd.length c] 37))
  have HC := Kp.mk (Kd.C_below hC HS.out.below)
  dsimp only at hl1 hl2 hl3
  have hl1' : pn.length < 4294967281 := by omega
  have hl2' : pg.length < 4294967281 := by omega
  have hl3' : pd.length ≤ 9223372036854775807 := by omega
  clear hE hC hw hpr hname htgt hl1 hl2 hl3 hc
  go_enter Tryz.func4, Tryz.ntmps4
  go_wp2_with (with_reducible refine ld_blk rfl 37 (.tmp 2) rfl w.heap.size rfl Hg Tryz.underlying37 rfl (by kernel_rfl) ?_)
  refine (HP.out _ HC.out).mono ?_
  rintro e1 w1 ⟨A1, c1, rfl, hR1, hB1⟩
  have Hg1 := Kp.mk ((hB1.block _ (heap_lt Hg.out)).trans Hg.out)
  have HS1 := Kp.mk (HS.out.step hB1)
  have HL1 := Kp.mk HS1.out.below
  clear hR1 hB1
  go_wp2_with (with_reducible refine st_blk (w0 := w) (base := w.heap.size) rfl 37 (.tmp 2) (.tmp 8) rfl rfl w.heap.size _ rfl rfl Hg1 (by kernel_rfl) (by kernel_rfl) (by kernel_rfl) HL1 (Nat.le_refl _) ?_)
  intro w2 Hg2 HO2 HB2 hs2
  have HS2 : Kp (St w w2) := ⟨⟨HB2.out, HS0.out.env.below HB2.out⟩⟩
  clear hs2 HO2 HB2 HL1
  go_wp2_with (fail)
  refine b_ (awake13_calls _ HS2.out.env) HS2 ?_
  intro w3 HB3 HS3
  have Hg3 := Kp.mk ((HB3.out.block _ (heap_lt Hg2.out)).trans Hg2.out)
  go_wp2_with (with_reducible refine ld_blkG (by kernel_rfl) 37 (.tmp 2) rfl w.heap.size rfl Hg3 Tryz.underlying37 rfl (by kernel_rfl) ?_)
  refine b_ (rightRec_calls ⟨pn, pt, pc, pl, ⟨pv, pb⟩, pg, pd⟩ A1 c1 _ HS3.out.env hl1' hl2' hl3') HS3 ?_
  intro w4 HB4 HS4
  rw [HRT.out]
  have Hg4 : Kp (w4.heap[w.heap.size]? = some (.cells (recA ⟨pn, pt, pc, pl, ⟨pv, pb⟩, pg, pd⟩ (.slice A1 pd.length c1)) 37 (0, 0))) := ⟨(HB4.out.block _ (heap_lt Hg3.out)).trans Hg3.out⟩
  have d1 := blk_cell Hg4.out 1
  have f1 := blk_frozen Hg4.out 1
  have Hg5 : Kp ((w4.setCell ⟨w.heap.size, 1, none⟩ (.int .i64 65536)).heap[w.heap.size]? = some (.cells (recA ⟨pn, 65536, pc, pl, ⟨pv, pb⟩, pg, pd⟩ (.slice A1 pd.length c1)) 37 (0, 0))) := ⟨(blk_put Hg4.out 1 (.int .i64 65536) rfl)⟩
  have HB5 : Kp (Below w.heap.size w (w4.setCell ⟨w.heap.size, 1, none⟩ (.int .i64 65536))) := ⟨(HS4.out.below.setCell (p := ⟨w.heap.size, 1, none⟩) (Nat.le_refl _) (.int .i64 65536))⟩
  have HS5 : Kp (St w (w4.setCell ⟨w.heap.size, 1, none⟩ (.int .i64 65536))) := ⟨⟨HB5.out, HS0.out.env.below HB5.out⟩⟩
  go_wp2_with ((with_reducible refine ld_blk rfl 37 (.tmp 2) rfl w.heap.size rfl Hg5 Tryz.underlying37 rfl (by kernel_rfl) ?_))
  refine g2_ (wr_bad ⟨pn, 65536, pc, pl, ⟨pv, pb⟩, pg, pd⟩ A1 c1 _ HS5.out.env hl1' hl2' hl3' (bad1 pn pc pl ⟨pv, pb⟩ pg pd)) HS5 ?_
  intro v6' v6e w6 HM6 HE6 HB6 HS6
  obtain ⟨A6, c6, rfl, -, -⟩ := slice_open (bytesK.K_of_M HM6.out)
  obtain rfl := er_open_code (erK.K_of_M HE6.out)
  have Hg6 := Kp.mk ((HB6.out.block _ (heap_lt Hg5.out)).trans Hg5.out)
  clear HM6 HE6
  go_wp2_with (with_reducible refine ld_blk rfl 37 (.tmp 2) rfl w.heap.size rfl Hg6 Tryz.underlying37 rfl (by kernel_rfl) ?_)
  have hrr := rightRec_calls ⟨pn, 65536, pc, pl, ⟨pv, pb⟩, pg, pd⟩ A1 c1 w6 HS6.out.env hl1' hl2' hl3'
  rw [bad1 pn pc pl ⟨pv, pb⟩ pg pd] at hrr
  refine b_ hrr HS6 ?_
  clear hrr
  intro w7 HB7 HS7
  go_wp2_with (fail)
  refine b_ (bare_calls 1 _) HS7 ?_
  intro w8 HB8 HS8
  go_wp2_with (fail)
  refine b_ (same_calls (.code 1) _ _ ⟨_, rfl, rfl⟩ HS8.out.env (.inr (by decide))) HS8 ?_
  intro w9 HB9 HS9
  go_wp2
  go_ret
  exact ⟨rfl, HS9.out.below⟩
theorem recordRefuses2 (w : World) (r : Rec) (A : Option Addr) (c : Nat) (hC : (Kd.int .u8).C w A r.data.length r.data) (hc : r.data.length ≤ c) (hw : r.fit) (a : Int) (hk : (IntKind.u64.wrap a).tmod 6 = 2) (hE : Env w) :
    Calls Tryz.prog 4 #[.agg (recA r (.slice A r.data.length c)), .int .i64 a] w fun e w' => e = .returned (.bool true) ∧ Below w.heap.size w w' := by
  have hname := hw.name
  have htgt := hw.tgt
  have HRT := Kp.mk (playR_right r)
  obtain ⟨hl1, hl2, hl3⟩ := playR_lens r
  have HP := Kp.mk (fun (W : World) (h : (Kd.int .u8).C W A r.data.length r.data) => playRec_calls r A c W h hc hname htgt)
  obtain ⟨pr, hpr⟩ : ∃ pr, playR r = pr := ⟨_, rfl⟩
  rw [hpr] at HRT hl1 hl2 hl3 HP
  obtain ⟨pn, pt, pc, pl, ⟨pv, pb⟩, pg, pd⟩ := pr
  obtain ⟨rn, rt, rc, rl, ⟨v6, b⟩, rtg, rd⟩ := r
  show Calls Tryz.prog 4 #[.agg #[.string (mkB rn), .int .i64 rt, .int .i64 rc, .int .u32 rl, .bool v6, .int .u8 (b 0), .int .u8 (b 1), .int .u8 (b 2), .int .u8 (b 3), .int .u8 (b 4), .int .u8 (b 5), .int .u8 (b 6), .int .u8 (b 7), .int .u8 (b 8), .int .u8 (b 9), .int .u8 (b 10), .int .u8 (b 11), .int .u8 (b 12), .int .u8 (b 13), .int .u8 (b 14), .int .u8 (b 15), .string (mkB rtg), .slice A rd.length c], .int .i64 a] w fun e w' => e = .returned (.bool true) ∧ Below w.heap.size w w'
  have HS0 := Kp.mk (St.start hE)
  have HS := Kp.mk ((St.start hE).alloc (.cells #[.string (mkB rn), .int .i64 rt, .int .i64 rc, .int .u32 rl, .bool v6, .int .u8 (b 0), .int .u8 (b 1), .int .u8 (b 2), .int .u8 (b 3), .int .u8 (b 4), .int .u8 (b 5), .int .u8 (b 6), .int .u8 (b 7), .int .u8 (b 8), .int .u8 (b 9), .int .u8 (b 10), .int .u8 (b 11), .int .u8 (b 12), .int .u8 (b 13), .int .u8 (b 14), .int .u8 (b 15), .string (mkB rtg), .slice A rd.length c] 37))
  have Hg := Kp.mk (heap_new w (.cells #[.string (mkB rn), .int .i64 rt, .int .i64 rc, .int .u32 rl, .bool v6, .int .u8 (b 0), .int .u8 (b 1), .int .u8 (b 2), .int .u8 (b 3), .int .u8 (b 4), .int .u8 (b 5), .int .u8 (b 6), .int .u8 (b 7), .int .u8 (b 8), .int .u8 (b 9), .int .u8 (b 10), .int .u8 (b 11), .int .u8 (b 12), .int .u8 (b 13), .int .u8 (b 14), .int .u8 (b 15), .string (mkB rtg), .slice A rd.length c] 37))
  have HC := Kp.mk (Kd.C_below hC HS.out.below)
  dsimp only at hl1 hl2 hl3
  have hl1' : pn.length < 4294967281 := by omega
  have hl2' : pg.length < 4294967281 := by omega
  have hl3' : pd.length ≤ 9223372036854775807 := by omega
  clear hE hC hw hpr hname htgt hl1 hl2 hl3 hc
  go_enter Tryz.func4, Tryz.ntmps4
  go_wp2_with (with_reducible refine ld_blk rfl 37 (.tmp 2) rfl w.heap.size rfl Hg Tryz.underlying37 rfl (by kernel_rfl) ?_)
  refine (HP.out _ HC.out).mono ?_
  rintro e1 w1 ⟨A1, c1, rfl, hR1, hB1⟩
  have Hg1 := Kp.mk ((hB1.block _ (heap_lt Hg.out)).trans Hg.out)
  have HS1 := Kp.mk (HS.out.step hB1)
  have HL1 := Kp.mk HS1.out.below
  clear hR1 hB1
  go_wp2_with (with_reducible refine st_blk (w0 := w) (base := w.heap.size) rfl 37 (.tmp 2) (.tmp 8) rfl rfl w.heap.size _ rfl rfl Hg1 (by kernel_rfl) (by kernel_rfl) (by kernel_rfl) HL1 (Nat.le_refl _) ?_)
  intro w2 Hg2 HO2 HB2 hs2
  have HS2 : Kp (St w w2) := ⟨⟨HB2.out, HS0.out.env.below HB2.out⟩⟩
  clear hs2 HO2 HB2 HL1
  go_wp2_with (fail)
  refine b_ (awake13_calls _ HS2.out.env) HS2 ?_
  intro w3 HB3 HS3
  have Hg3 := Kp.mk ((HB3.out.block _ (heap_lt Hg2.out)).trans Hg2.out)
  go_wp2_with (with_reducible refine ld_blkG (by kernel_rfl) 37 (.tmp 2) rfl w.heap.size rfl Hg3 Tryz.underlying37 rfl (by kernel_rfl) ?_)
  refine b_ (rightRec_calls ⟨pn, pt, pc, pl, ⟨pv, pb⟩, pg, pd⟩ A1 c1 _ HS3.out.env hl1' hl2' hl3') HS3 ?_
  intro w4 HB4 HS4
  rw [HRT.out]
  have Hg4 : Kp (w4.heap[w.heap.size]? = some (.cells (recA ⟨pn, pt, pc, pl, ⟨pv, pb⟩, pg, pd⟩ (.slice A1 pd.length c1)) 37 (0, 0))) := ⟨(HB4.out.block _ (heap_lt Hg3.out)).trans Hg3.out⟩
  have d2 := blk_cell Hg4.out 2
  have f2 := blk_frozen Hg4.out 2
  have Hg5 : Kp ((w4.setCell ⟨w.heap.size, 2, none⟩ (.int .i64 (-1))).heap[w.heap.size]? = some (.cells (recA ⟨pn, pt, -1, pl, ⟨pv, pb⟩, pg, pd⟩ (.slice A1 pd.length c1)) 37 (0, 0))) := ⟨(blk_put Hg4.out 2 (.int .i64 (-1)) rfl)⟩
  have HB5 : Kp (Below w.heap.size w (w4.setCell ⟨w.heap.size, 2, none⟩ (.int .i64 (-1)))) := ⟨(HS4.out.below.setCell (p := ⟨w.heap.size, 2, none⟩) (Nat.le_refl _) (.int .i64 (-1)))⟩
  have HS5 : Kp (St w (w4.setCell ⟨w.heap.size, 2, none⟩ (.int .i64 (-1)))) := ⟨⟨HB5.out, HS0.out.env.below HB5.out⟩⟩
  go_wp2_with ((with_reducible refine ld_blk rfl 37 (.tmp 2) rfl w.heap.size rfl Hg5 Tryz.underlying37 rfl (by kernel_rfl) ?_))
  refine g2_ (wr_bad ⟨pn, pt, -1, pl, ⟨pv, pb⟩, pg, pd⟩ A1 c1 _ HS5.out.env hl1' hl2' hl3' (bad2 pn pt pl ⟨pv, pb⟩ pg pd)) HS5 ?_
  intro v6' v6e w6 HM6 HE6 HB6 HS6
  obtain ⟨A6, c6, rfl, -, -⟩ := slice_open (bytesK.K_of_M HM6.out)
  obtain rfl := er_open_code (erK.K_of_M HE6.out)
  have Hg6 := Kp.mk ((HB6.out.block _ (heap_lt Hg5.out)).trans Hg5.out)
  clear HM6 HE6
  go_wp2_with (with_reducible refine ld_blk rfl 37 (.tmp 2) rfl w.heap.size rfl Hg6 Tryz.underlying37 rfl (by kernel_rfl) ?_)
  have hrr := rightRec_calls ⟨pn, pt, -1, pl, ⟨pv, pb⟩, pg, pd⟩ A1 c1 w6 HS6.out.env hl1' hl2' hl3'
  rw [bad2 pn pt pl ⟨pv, pb⟩ pg pd] at hrr
  refine b_ hrr HS6 ?_
  clear hrr
  intro w7 HB7 HS7
  go_wp2_with (fail)
  refine b_ (bare_calls 1 _) HS7 ?_
  intro w8 HB8 HS8
  go_wp2_with (fail)
  refine b_ (same_calls (.code 1) _ _ ⟨_, rfl, rfl⟩ HS8.out.env (.inr (by decide))) HS8 ?_
  intro w9 HB9 HS9
  go_wp2
  go_ret
  exact ⟨rfl, HS9.out.below⟩
theorem recordRefuses3 (w : World) (r : Rec) (A : Option Addr) (c : Nat) (hC : (Kd.int .u8).C w A r.data.length r.data) (hc : r.data.length ≤ c) (hw : r.fit) (a : Int) (hk : (IntKind.u64.wrap a).tmod 6 = 3) (hE : Env w) :
    Calls Tryz.prog 4 #[.agg (recA r (.slice A r.data.length c)), .int .i64 a] w fun e w' => e = .returned (.bool true) ∧ Below w.heap.size w w' := by
  have hname := hw.name
  have htgt := hw.tgt
  have HRT := Kp.mk (playR_right r)
  obtain ⟨hl1, hl2, hl3⟩ := playR_lens r
  have HP := Kp.mk (fun (W : World) (h : (Kd.int .u8).C W A r.data.length r.data) => playRec_calls r A c W h hc hname htgt)
  obtain ⟨pr, hpr⟩ : ∃ pr, playR r = pr := ⟨_, rfl⟩
  rw [hpr] at HRT hl1 hl2 hl3 HP
  obtain ⟨pn, pt, pc, pl, ⟨pv, pb⟩, pg, pd⟩ := pr
  obtain ⟨rn, rt, rc, rl, ⟨v6, b⟩, rtg, rd⟩ := r
  show Calls Tryz.prog 4 #[.agg #[.string (mkB rn), .int .i64 rt, .int .i64 rc, .int .u32 rl, .bool v6, .int .u8 (b 0), .int .u8 (b 1), .int .u8 (b 2), .int .u8 (b 3), .int .u8 (b 4), .int .u8 (b 5), .int .u8 (b 6), .int .u8 (b 7), .int .u8 (b 8), .int .u8 (b 9), .int .u8 (b 10), .int .u8 (b 11), .int .u8 (b 12), .int .u8 (b 13), .int .u8 (b 14), .int .u8 (b 15), .string (mkB rtg), .slice A rd.length c], .int .i64 a] w fun e w' => e = .returned (.bool true) ∧ Below w.heap.size w w'
  have HS0 := Kp.mk (St.start hE)
  have HS := Kp.mk ((St.start hE).alloc (.cells #[.string (mkB rn), .int .i64 rt, .int .i64 rc, .int .u32 rl, .bool v6, .int .u8 (b 0), .int .u8 (b 1), .int .u8 (b 2), .int .u8 (b 3), .int .u8 (b 4), .int .u8 (b 5), .int .u8 (b 6), .int .u8 (b 7), .int .u8 (b 8), .int .u8 (b 9), .int .u8 (b 10), .int .u8 (b 11), .int .u8 (b 12), .int .u8 (b 13), .int .u8 (b 14), .int .u8 (b 15), .string (mkB rtg), .slice A rd.length c] 37))
  have Hg := Kp.mk (heap_new w (.cells #[.string (mkB rn), .int .i64 rt, .int .i64 rc, .int .u32 rl, .bool v6, .int .u8 (b 0), .int .u8 (b 1), .int .u8 (b 2), .int .u8 (b 3), .int .u8 (b 4), .int .u8 (b 5), .int .u8 (b 6), .int .u8 (b 7), .int .u8 (b 8), .int .u8 (b 9), .int .u8 (b 10), .int .u8 (b 11), .int .u8 (b 12), .int .u8 (b 13), .int .u8 (b 14), .int .u8 (b 15), .string (mkB rtg), .slice A rd.length c] 37))
  have HC := Kp.mk (Kd.C_below hC HS.out.below)
  dsimp only at hl1 hl2 hl3
  have hl1' : pn.length < 4294967281 := by omega
  have hl2' : pg.length < 4294967281 := by omega
  have hl3' : pd.length ≤ 9223372036854775807 := by omega
  clear hE hC hw hpr hname htgt hl1 hl2 hl3 hc
  go_enter Tryz.func4, Tryz.ntmps4
  go_wp2_with (with_reducible refine ld_blk rfl 37 (.tmp 2) rfl w.heap.size rfl Hg Tryz.underlying37 rfl (by kernel_rfl) ?_)
  refine (HP.out _ HC.out).mono ?_
  rintro e1 w1 ⟨A1, c1, rfl, hR1, hB1⟩
  have Hg1 := Kp.mk ((hB1.block _ (heap_lt Hg.out)).trans Hg.out)
  have HS1 := Kp.mk (HS.out.step hB1)
  have HL1 := Kp.mk HS1.out.below
  clear hR1 hB1
  go_wp2_with (with_reducible refine st_blk (w0 := w) (base := w.heap.size) rfl 37 (.tmp 2) (.tmp 8) rfl rfl w.heap.size _ rfl rfl Hg1 (by kernel_rfl) (by kernel_rfl) (by kernel_rfl) HL1 (Nat.le_refl _) ?_)
  intro w2 Hg2 HO2 HB2 hs2
  have HS2 : Kp (St w w2) := ⟨⟨HB2.out, HS0.out.env.below HB2.out⟩⟩
  clear hs2 HO2 HB2 HL1
  go_wp2_with (fail)
  refine b_ (awake13_calls _ HS2.out.env) HS2 ?_
  intro w3 HB3 HS3
  have Hg3 := Kp.mk ((HB3.out.block _ (heap_lt Hg2.out)).trans Hg2.out)
  go_wp2_with (with_reducible refine ld_blkG (by kernel_rfl) 37 (.tmp 2) rfl w.heap.size rfl Hg3 Tryz.underlying37 rfl (by kernel_rfl) ?_)
  refine b_ (rightRec_calls ⟨pn, pt, pc, pl, ⟨pv, pb⟩, pg, pd⟩ A1 c1 _ HS3.out.env hl1' hl2' hl3') HS3 ?_
  intro w4 HB4 HS4
  rw [HRT.out]
  have Hg4 : Kp (w4.heap[w.heap.size]? = some (.cells (recA ⟨pn, pt, pc, pl, ⟨pv, pb⟩, pg, pd⟩ (.slice A1 pd.length c1)) 37 (0, 0))) := ⟨(HB4.out.block _ (heap_lt Hg3.out)).trans Hg3.out⟩
  have d1 := blk_cell Hg4.out 1
  have f1 := blk_frozen Hg4.out 1
  have d21 := blk_cell Hg4.out 21
  have f21 := blk_frozen Hg4.out 21
  have Hg5 : Kp (((w4.setCell ⟨w.heap.size, 1, none⟩ (.int .i64 1)).setCell ⟨w.heap.size, 21, none⟩ (.string ⟨#[120]⟩)).heap[w.heap.size]? = some (.cells (recA ⟨pn, 1, pc, pl, ⟨pv, pb⟩, [120], pd⟩ (.slice A1 pd.length c1)) 37 (0, 0))) := ⟨(blk_put (blk_put Hg4.out 1 (.int .i64 1) rfl) 21 (.string ⟨#[120]⟩) rfl)⟩
  have HB5 : Kp (Below w.heap.size w ((w4.setCell ⟨w.heap.size, 1, none⟩ (.int .i64 1)).setCell ⟨w.heap.size, 21, none⟩ (.string ⟨#[120]⟩))) := ⟨((HS4.out.below.setCell (p := ⟨w.heap.size, 1, none⟩) (Nat.le_refl _) (.int .i64 1)).setCell (p := ⟨w.heap.size, 21, none⟩) (Nat.le_refl _) (.string ⟨#[120]⟩))⟩
  have HS5 : Kp (St w ((w4.setCell ⟨w.heap.size, 1, none⟩ (.int .i64 1)).setCell ⟨w.heap.size, 21, none⟩ (.string ⟨#[120]⟩))) := ⟨⟨HB5.out, HS0.out.env.below HB5.out⟩⟩
  go_wp2_with ((with_reducible refine ld_blk rfl 37 (.tmp 2) rfl w.heap.size rfl Hg5 Tryz.underlying37 rfl (by kernel_rfl) ?_))
  refine g2_ (wr_bad ⟨pn, 1, pc, pl, ⟨pv, pb⟩, [120], pd⟩ A1 c1 _ HS5.out.env hl1' (Nat.le_of_ble_eq_true rfl) hl3' (bad3 pn pc pl ⟨pv, pb⟩ pd)) HS5 ?_
  intro v6' v6e w6 HM6 HE6 HB6 HS6
  obtain ⟨A6, c6, rfl, -, -⟩ := slice_open (bytesK.K_of_M HM6.out)
  obtain rfl := er_open_code (erK.K_of_M HE6.out)
  have Hg6 := Kp.mk ((HB6.out.block _ (heap_lt Hg5.out)).trans Hg5.out)
  clear HM6 HE6
  go_wp2_with (with_reducible refine ld_blk rfl 37 (.tmp 2) rfl w.heap.size rfl Hg6 Tryz.underlying37 rfl (by kernel_rfl) ?_)
  have hrr := rightRec_calls ⟨pn, 1, pc, pl, ⟨pv, pb⟩, [120], pd⟩ A1 c1 w6 HS6.out.env hl1' (Nat.le_of_ble_eq_true rfl) hl3'
  rw [bad3 pn pc pl ⟨pv, pb⟩ pd] at hrr
  refine b_ hrr HS6 ?_
  clear hrr
  intro w7 HB7 HS7
  go_wp2_with (fail)
  refine b_ (bare_calls 1 _) HS7 ?_
  intro w8 HB8 HS8
  go_wp2_with (fail)
  refine b_ (same_calls (.code 1) _ _ ⟨_, rfl, rfl⟩ HS8.out.env (.inr (by decide))) HS8 ?_
  intro w9 HB9 HS9
  go_wp2
  go_ret
  exact ⟨rfl, HS9.out.below⟩
theorem recordRefuses4 (w : World) (r : Rec) (A : Option Addr) (c : Nat) (hC : (Kd.int .u8).C w A r.data.length r.data) (hc : r.data.length ≤ c) (hw : r.fit) (a : Int) (hk : (IntKind.u64.wrap a).tmod 6 = 4) (hE : Env w) :
    Calls Tryz.prog 4 #[.agg (recA r (.slice A r.data.length c)), .int .i64 a] w fun e w' => e = .returned (.bool true) ∧ Below w.heap.size w w' := by
  have hname := hw.name
  have htgt := hw.tgt
  have HRT := Kp.mk (playR_right r)
  obtain ⟨hl1, hl2, hl3⟩ := playR_lens r
  have HP := Kp.mk (fun (W : World) (h : (Kd.int .u8).C W A r.data.length r.data) => playRec_calls r A c W h hc hname htgt)
  obtain ⟨pr, hpr⟩ : ∃ pr, playR r = pr := ⟨_, rfl⟩
  rw [hpr] at HRT hl1 hl2 hl3 HP
  obtain ⟨pn, pt, pc, pl, ⟨pv, pb⟩, pg, pd⟩ := pr
  obtain ⟨rn, rt, rc, rl, ⟨v6, b⟩, rtg, rd⟩ := r
  show Calls Tryz.prog 4 #[.agg #[.string (mkB rn), .int .i64 rt, .int .i64 rc, .int .u32 rl, .bool v6, .int .u8 (b 0), .int .u8 (b 1), .int .u8 (b 2), .int .u8 (b 3), .int .u8 (b 4), .int .u8 (b 5), .int .u8 (b 6), .int .u8 (b 7), .int .u8 (b 8), .int .u8 (b 9), .int .u8 (b 10), .int .u8 (b 11), .int .u8 (b 12), .int .u8 (b 13), .int .u8 (b 14), .int .u8 (b 15), .string (mkB rtg), .slice A rd.length c], .int .i64 a] w fun e w' => e = .returned (.bool true) ∧ Below w.heap.size w w'
  have HS0 := Kp.mk (St.start hE)
  have HS := Kp.mk ((St.start hE).alloc (.cells #[.string (mkB rn), .int .i64 rt, .int .i64 rc, .int .u32 rl, .bool v6, .int .u8 (b 0), .int .u8 (b 1), .int .u8 (b 2), .int .u8 (b 3), .int .u8 (b 4), .int .u8 (b 5), .int .u8 (b 6), .int .u8 (b 7), .int .u8 (b 8), .int .u8 (b 9), .int .u8 (b 10), .int .u8 (b 11), .int .u8 (b 12), .int .u8 (b 13), .int .u8 (b 14), .int .u8 (b 15), .string (mkB rtg), .slice A rd.length c] 37))
  have Hg := Kp.mk (heap_new w (.cells #[.string (mkB rn), .int .i64 rt, .int .i64 rc, .int .u32 rl, .bool v6, .int .u8 (b 0), .int .u8 (b 1), .int .u8 (b 2), .int .u8 (b 3), .int .u8 (b 4), .int .u8 (b 5), .int .u8 (b 6), .int .u8 (b 7), .int .u8 (b 8), .int .u8 (b 9), .int .u8 (b 10), .int .u8 (b 11), .int .u8 (b 12), .int .u8 (b 13), .int .u8 (b 14), .int .u8 (b 15), .string (mkB rtg), .slice A rd.length c] 37))
  have HC := Kp.mk (Kd.C_below hC HS.out.below)
  dsimp only at hl1 hl2 hl3
  have hl1' : pn.length < 4294967281 := by omega
  have hl2' : pg.length < 4294967281 := by omega
  have hl3' : pd.length ≤ 9223372036854775807 := by omega
  clear hE hC hw hpr hname htgt hl1 hl2 hl3 hc
  go_enter Tryz.func4, Tryz.ntmps4
  go_wp2_with (with_reducible refine ld_blk rfl 37 (.tmp 2) rfl w.heap.size rfl Hg Tryz.underlying37 rfl (by kernel_rfl) ?_)
  refine (HP.out _ HC.out).mono ?_
  rintro e1 w1 ⟨A1, c1, rfl, hR1, hB1⟩
  have Hg1 := Kp.mk ((hB1.block _ (heap_lt Hg.out)).trans Hg.out)
  have HS1 := Kp.mk (HS.out.step hB1)
  have HL1 := Kp.mk HS1.out.below
  clear hR1 hB1
  go_wp2_with (with_reducible refine st_blk (w0 := w) (base := w.heap.size) rfl 37 (.tmp 2) (.tmp 8) rfl rfl w.heap.size _ rfl rfl Hg1 (by kernel_rfl) (by kernel_rfl) (by kernel_rfl) HL1 (Nat.le_refl _) ?_)
  intro w2 Hg2 HO2 HB2 hs2
  have HS2 : Kp (St w w2) := ⟨⟨HB2.out, HS0.out.env.below HB2.out⟩⟩
  clear hs2 HO2 HB2 HL1
  go_wp2_with (fail)
  refine b_ (awake13_calls _ HS2.out.env) HS2 ?_
  intro w3 HB3 HS3
  have Hg3 := Kp.mk ((HB3.out.block _ (heap_lt Hg2.out)).trans Hg2.out)
  go_wp2_with (with_reducible refine ld_blkG (by kernel_rfl) 37 (.tmp 2) rfl w.heap.size rfl Hg3 Tryz.underlying37 rfl (by kernel_rfl) ?_)
  refine b_ (rightRec_calls ⟨pn, pt, pc, pl, ⟨pv, pb⟩, pg, pd⟩ A1 c1 _ HS3.out.env hl1' hl2' hl3') HS3 ?_
  intro w4 HB4 HS4
  rw [HRT.out]
  have Hg4 : Kp (w4.heap[w.heap.size]? = some (.cells (recA ⟨pn, pt, pc, pl, ⟨pv, pb⟩, pg, pd⟩ (.slice A1 pd.length c1)) 37 (0, 0))) := ⟨(HB4.out.block _ (heap_lt Hg3.out)).trans Hg3.out⟩
  have d1 := blk_cell Hg4.out 1
  have f1 := blk_frozen Hg4.out 1
  have Hga : Kp ((w4.setCell ⟨w.heap.size, 1, none⟩ (.int .i64 5)).heap[w.heap.size]? = some (.cells (recA ⟨pn, 5, pc, pl, ⟨pv, pb⟩, pg, pd⟩ (.slice A1 pd.length c1)) 37 (0, 0))) := ⟨blk_put Hg4.out 1 (.int .i64 5) rfl⟩
  have HBa : Kp (Below w.heap.size w (w4.setCell ⟨w.heap.size, 1, none⟩ (.int .i64 5))) := ⟨HS4.out.below.setCell (p := ⟨w.heap.size, 1, none⟩) (Nat.le_refl _) _⟩
  go_wp2_with (with_reducible refine st_mid (w0 := w) (base := w.heap.size) rfl 35 (.tmp 41) (.tmp 39) rfl rfl w.heap.size 4 _ rfl rfl Hga (by kernel_rfl) (Nat.le_of_ble_eq_true (by kernel_rfl)) (by kernel_rfl) (new := recA ⟨pn, 5, pc, pl, ⟨true, fun _ => 0⟩, pg, pd⟩ (.slice A1 pd.length c1)) (by kernel_rfl) HBa (Nat.le_refl _) ?_)
  intro wm Hgm HOm HBm hsm
  clear hsm HOm Hga HBa d1 f1
  have Hg5 : Kp (wm.heap[w.heap.size]? = some (.cells (recA ⟨pn, 5, pc, pl, ⟨true, fun _ => 0⟩, pg, pd⟩ (.slice A1 pd.length c1)) 37 (0, 0))) := ⟨Hgm.out⟩
  have HB5 : Kp (Below w.heap.size w wm) := ⟨HBm.out⟩
  have HS5 : Kp (St w wm) := ⟨⟨HB5.out, HS0.out.env.below HB5.out⟩⟩
  go_wp2_with ((with_reducible refine ld_blk rfl 37 (.tmp 2) rfl w.heap.size rfl Hg5 Tryz.underlying37 rfl (by kernel_rfl) ?_))
  refine g2_ (wr_bad ⟨pn, 5, pc, pl, ⟨true, fun _ => 0⟩, pg, pd⟩ A1 c1 _ HS5.out.env hl1' hl2' hl3' (bad4 pn pc pl pg pd)) HS5 ?_
  intro v6' v6e w6 HM6 HE6 HB6 HS6
  obtain ⟨A6, c6, rfl, -, -⟩ := slice_open (bytesK.K_of_M HM6.out)
  obtain rfl := er_open_code (erK.K_of_M HE6.out)
  have Hg6 := Kp.mk ((HB6.out.block _ (heap_lt Hg5.out)).trans Hg5.out)
  clear HM6 HE6
  go_wp2_with (with_reducible refine ld_blk rfl 37 (.tmp 2) rfl w.heap.size rfl Hg6 Tryz.underlying37 rfl (by kernel_rfl) ?_)
  have hrr := rightRec_calls ⟨pn, 5, pc, pl, ⟨true, fun _ => 0⟩, pg, pd⟩ A1 c1 w6 HS6.out.env hl1' hl2' hl3'
  rw [bad4 pn pc pl pg pd] at hrr
  refine b_ hrr HS6 ?_
  clear hrr
  intro w7 HB7 HS7
  go_wp2_with (fail)
  refine b_ (bare_calls 1 _) HS7 ?_
  intro w8 HB8 HS8
  go_wp2_with (fail)
  refine b_ (same_calls (.code 1) _ _ ⟨_, rfl, rfl⟩ HS8.out.env (.inr (by decide))) HS8 ?_
  intro w9 HB9 HS9
  go_wp2
  go_ret
  exact ⟨rfl, HS9.out.below⟩
theorem recordRefuses5 (w : World) (r : Rec) (A : Option Addr) (c : Nat) (hC : (Kd.int .u8).C w A r.data.length r.data) (hc : r.data.length ≤ c) (hw : r.fit) (a : Int) (hk : (IntKind.u64.wrap a).tmod 6 = 5) (hE : Env w) :
    Calls Tryz.prog 4 #[.agg (recA r (.slice A r.data.length c)), .int .i64 a] w fun e w' => e = .returned (.bool true) ∧ Below w.heap.size w w' := by
  have hname := hw.name
  have htgt := hw.tgt
  have HRT := Kp.mk (playR_right r)
  obtain ⟨hl1, hl2, hl3⟩ := playR_lens r
  have HP := Kp.mk (fun (W : World) (h : (Kd.int .u8).C W A r.data.length r.data) => playRec_calls r A c W h hc hname htgt)
  obtain ⟨pr, hpr⟩ : ∃ pr, playR r = pr := ⟨_, rfl⟩
  rw [hpr] at HRT hl1 hl2 hl3 HP
  obtain ⟨pn, pt, pc, pl, ⟨pv, pb⟩, pg, pd⟩ := pr
  obtain ⟨rn, rt, rc, rl, ⟨v6, b⟩, rtg, rd⟩ := r
  show Calls Tryz.prog 4 #[.agg #[.string (mkB rn), .int .i64 rt, .int .i64 rc, .int .u32 rl, .bool v6, .int .u8 (b 0), .int .u8 (b 1), .int .u8 (b 2), .int .u8 (b 3), .int .u8 (b 4), .int .u8 (b 5), .int .u8 (b 6), .int .u8 (b 7), .int .u8 (b 8), .int .u8 (b 9), .int .u8 (b 10), .int .u8 (b 11), .int .u8 (b 12), .int .u8 (b 13), .int .u8 (b 14), .int .u8 (b 15), .string (mkB rtg), .slice A rd.length c], .int .i64 a] w fun e w' => e = .returned (.bool true) ∧ Below w.heap.size w w'
  have HS0 := Kp.mk (St.start hE)
  have HS := Kp.mk ((St.start hE).alloc (.cells #[.string (mkB rn), .int .i64 rt, .int .i64 rc, .int .u32 rl, .bool v6, .int .u8 (b 0), .int .u8 (b 1), .int .u8 (b 2), .int .u8 (b 3), .int .u8 (b 4), .int .u8 (b 5), .int .u8 (b 6), .int .u8 (b 7), .int .u8 (b 8), .int .u8 (b 9), .int .u8 (b 10), .int .u8 (b 11), .int .u8 (b 12), .int .u8 (b 13), .int .u8 (b 14), .int .u8 (b 15), .string (mkB rtg), .slice A rd.length c] 37))
  have Hg := Kp.mk (heap_new w (.cells #[.string (mkB rn), .int .i64 rt, .int .i64 rc, .int .u32 rl, .bool v6, .int .u8 (b 0), .int .u8 (b 1), .int .u8 (b 2), .int .u8 (b 3), .int .u8 (b 4), .int .u8 (b 5), .int .u8 (b 6), .int .u8 (b 7), .int .u8 (b 8), .int .u8 (b 9), .int .u8 (b 10), .int .u8 (b 11), .int .u8 (b 12), .int .u8 (b 13), .int .u8 (b 14), .int .u8 (b 15), .string (mkB rtg), .slice A rd.length c] 37))
  have HC := Kp.mk (Kd.C_below hC HS.out.below)
  dsimp only at hl1 hl2 hl3
  have hl1' : pn.length < 4294967281 := by omega
  have hl2' : pg.length < 4294967281 := by omega
  have hl3' : pd.length ≤ 9223372036854775807 := by omega
  clear hE hC hw hpr hname htgt hl1 hl2 hl3 hc
  go_enter Tryz.func4, Tryz.ntmps4
  go_wp2_with (with_reducible refine ld_blk rfl 37 (.tmp 2) rfl w.heap.size rfl Hg Tryz.underlying37 rfl (by kernel_rfl) ?_)
  refine (HP.out _ HC.out).mono ?_
  rintro e1 w1 ⟨A1, c1, rfl, hR1, hB1⟩
  have Hg1 := Kp.mk ((hB1.block _ (heap_lt Hg.out)).trans Hg.out)
  have HS1 := Kp.mk (HS.out.step hB1)
  have HL1 := Kp.mk HS1.out.below
  clear hR1 hB1
  go_wp2_with (with_reducible refine st_blk (w0 := w) (base := w.heap.size) rfl 37 (.tmp 2) (.tmp 8) rfl rfl w.heap.size _ rfl rfl Hg1 (by kernel_rfl) (by kernel_rfl) (by kernel_rfl) HL1 (Nat.le_refl _) ?_)
  intro w2 Hg2 HO2 HB2 hs2
  have HS2 : Kp (St w w2) := ⟨⟨HB2.out, HS0.out.env.below HB2.out⟩⟩
  clear hs2 HO2 HB2 HL1
  go_wp2_with (fail)
  refine b_ (awake13_calls _ HS2.out.env) HS2 ?_
  intro w3 HB3 HS3
  have Hg3 := Kp.mk ((HB3.out.block _ (heap_lt Hg2.out)).trans Hg2.out)
  go_wp2_with (with_reducible refine ld_blkG (by kernel_rfl) 37 (.tmp 2) rfl w.heap.size rfl Hg3 Tryz.underlying37 rfl (by kernel_rfl) ?_)
  refine b_ (rightRec_calls ⟨pn, pt, pc, pl, ⟨pv, pb⟩, pg, pd⟩ A1 c1 _ HS3.out.env hl1' hl2' hl3') HS3 ?_
  intro w4 HB4 HS4
  rw [HRT.out]
  have Hg4 : Kp (w4.heap[w.heap.size]? = some (.cells (recA ⟨pn, pt, pc, pl, ⟨pv, pb⟩, pg, pd⟩ (.slice A1 pd.length c1)) 37 (0, 0))) := ⟨(HB4.out.block _ (heap_lt Hg3.out)).trans Hg3.out⟩
  have d1 := blk_cell Hg4.out 1
  have f1 := blk_frozen Hg4.out 1
  have Hga : Kp ((w4.setCell ⟨w.heap.size, 1, none⟩ (.int .i64 28)).heap[w.heap.size]? = some (.cells (recA ⟨pn, 28, pc, pl, ⟨pv, pb⟩, pg, pd⟩ (.slice A1 pd.length c1)) 37 (0, 0))) := ⟨blk_put Hg4.out 1 (.int .i64 28) rfl⟩
  have HBa : Kp (Below w.heap.size w (w4.setCell ⟨w.heap.size, 1, none⟩ (.int .i64 28))) := ⟨HS4.out.below.setCell (p := ⟨w.heap.size, 1, none⟩) (Nat.le_refl _) _⟩
  go_wp2_with (with_reducible refine st_mid (w0 := w) (base := w.heap.size) rfl 35 (.tmp 21) (.tmp 19) rfl rfl w.heap.size 4 _ rfl rfl Hga (by kernel_rfl) (Nat.le_of_ble_eq_true (by kernel_rfl)) (by kernel_rfl) (new := recA ⟨pn, 28, pc, pl, ⟨false, fun _ => 0⟩, pg, pd⟩ (.slice A1 pd.length c1)) (by kernel_rfl) HBa (Nat.le_refl _) ?_)
  intro wm Hgm HOm HBm hsm
  clear hsm HOm Hga HBa d1 f1
  have d21 := blk_cell Hgm.out 21
  have f21 := blk_frozen Hgm.out 21
  have d22 := blk_cell Hgm.out 22
  have f22 := blk_frozen Hgm.out 22
  have Hg5 : Kp (((wm.setCell ⟨w.heap.size, 21, none⟩ (.string ⟨#[]⟩)).setCell ⟨w.heap.size, 22, none⟩ (.slice none 0 0)).heap[w.heap.size]? = some (.cells (recA ⟨pn, 28, pc, pl, Ad.zero, [], []⟩ (.slice none 0 0)) 37 (0, 0))) := ⟨(blk_put (blk_put Hgm.out 21 (.string ⟨#[]⟩) rfl) 22 (.slice none 0 0) rfl)⟩
  have HB5 : Kp (Below w.heap.size w ((wm.setCell ⟨w.heap.size, 21, none⟩ (.string ⟨#[]⟩)).setCell ⟨w.heap.size, 22, none⟩ (.slice none 0 0))) := ⟨((HBm.out.setCell (p := ⟨w.heap.size, 21, none⟩) (Nat.le_refl _) (.string ⟨#[]⟩)).setCell (p := ⟨w.heap.size, 22, none⟩) (Nat.le_refl _) (.slice none 0 0))⟩
  have HS5 : Kp (St w ((wm.setCell ⟨w.heap.size, 21, none⟩ (.string ⟨#[]⟩)).setCell ⟨w.heap.size, 22, none⟩ (.slice none 0 0))) := ⟨⟨HB5.out, HS0.out.env.below HB5.out⟩⟩
  go_wp2_with ((with_reducible refine ld_blk rfl 37 (.tmp 2) rfl w.heap.size rfl Hg5 Tryz.underlying37 rfl (by kernel_rfl) ?_))
  refine g2_ (wr_bad ⟨pn, 28, pc, pl, Ad.zero, [], []⟩ none 0 _ HS5.out.env hl1' (Nat.le_of_ble_eq_true rfl) (Nat.le_of_ble_eq_true rfl) (bad5 pn pc pl)) HS5 ?_
  intro v6' v6e w6 HM6 HE6 HB6 HS6
  obtain ⟨A6, c6, rfl, -, -⟩ := slice_open (bytesK.K_of_M HM6.out)
  obtain rfl := er_open_code (erK.K_of_M HE6.out)
  have Hg6 := Kp.mk ((HB6.out.block _ (heap_lt Hg5.out)).trans Hg5.out)
  clear HM6 HE6
  go_wp2_with (with_reducible refine ld_blk rfl 37 (.tmp 2) rfl w.heap.size rfl Hg6 Tryz.underlying37 rfl (by kernel_rfl) ?_)
  have hrr := rightRec_calls ⟨pn, 28, pc, pl, Ad.zero, [], []⟩ none 0 w6 HS6.out.env hl1' (Nat.le_of_ble_eq_true rfl) (Nat.le_of_ble_eq_true rfl)
  rw [bad5 pn pc pl] at hrr
  refine b_ hrr HS6 ?_
  clear hrr
  intro w7 HB7 HS7
  go_wp2_with (fail)
  refine b_ (bare_calls 1 _) HS7 ?_
  intro w8 HB8 HS8
  go_wp2_with (fail)
  refine b_ (same_calls (.code 1) _ _ ⟨_, rfl, rfl⟩ HS8.out.env (.inr (by decide))) HS8 ?_
  intro w9 HB9 HS9
  go_wp2
  go_ret
  exact ⟨rfl, HS9.out.below⟩
theorem recordRefuses_walk (w : World) (r : Rec) (A : Option Addr) (c : Nat) (hC : (Kd.int .u8).C w A r.data.length r.data) (hc : r.data.length ≤ c) (hw : r.fit) (a : Int) (l1 : -9223372036854775808 ≤ a) (u1 : a ≤ 9223372036854775807) (hE : Env w) :
    Calls Tryz.prog 4 #[.agg (recA r (.slice A r.data.length c)), .int .i64 a] w fun e w' => e = .returned (.bool true) ∧ Below w.heap.size w w' := by
  obtain ⟨N, hN, hk⟩ := umod_raw a 6 (by decide)
  match N, hN, hk with
  | 0, _, hk => exact recordRefuses0 w r A c hC hc hw a hk hE
  | 1, _, hk => exact recordRefuses1 w r A c hC hc hw a hk hE
  | 2, _, hk => exact recordRefuses2 w r A c hC hc hw a hk hE
  | 3, _, hk => exact recordRefuses3 w r A c hC hc hw a hk hE
  | 4, _, hk => exact recordRefuses4 w r A c hC hc hw a hk hE
  | 5, _, hk => exact recordRefuses5 w r A c hC hc hw a hk hE
  | N + 6, hN, _ => exact absurd hN (by omega)
end Go.Proofs.YtclgffblfjhciaaGreatDoor
