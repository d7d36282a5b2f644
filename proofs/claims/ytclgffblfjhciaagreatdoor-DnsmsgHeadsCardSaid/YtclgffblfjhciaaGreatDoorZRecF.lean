/-
  Package record: WriteRecord, where a record may not be.
-/
import Derived.Test.YtclgffblfjhciaaGreatDoorGs
import Derived.Test.YtclgffblfjhciaaGreatDoorZSameRec
namespace Go.Proofs.YtclgffblfjhciaaGreatDoor
open Go.RowKit Go.Proofs.YtclgffblfjhciaaGreatDoorW.PrintWords
set_option linter.unusedVariables false
set_option linter.unusedSimpArgs false
set_option maxRecDepth 100000
set_option maxHeartbeats 1000000

theorem wr_bad (r : Rec) (A : Option Addr) (c : Nat) (w : World) (hE : Env w) (hs : r.name.length < 4294967281) (ht : r.tgt.length < 4294967281) (hd : r.data.length ≤ 9223372036854775807) (hr : r.right = false) :
    Calls Tryz.prog 22 #[.agg (recA r (.slice A r.data.length c))] w (Gives2 bytesK erK [] (.code 1) w) := by
  obtain ⟨rn, rt, rc, rl, ⟨v6, b⟩, rtg, rd⟩ := r
  show Calls Tryz.prog 22 #[.agg #[.string (mkB rn), .int .i64 rt, .int .i64 rc, .int .u32 rl, .bool v6, .int .u8 (b 0), .int .u8 (b 1), .int .u8 (b 2), .int .u8 (b 3), .int .u8 (b 4), .int .u8 (b 5), .int .u8 (b 6), .int .u8 (b 7), .int .u8 (b 8), .int .u8 (b 9), .int .u8 (b 10), .int .u8 (b 11), .int .u8 (b 12), .int .u8 (b 13), .int .u8 (b 14), .int .u8 (b 15), .string (mkB rtg), .slice A rd.length c]] w (Gives2 bytesK erK [] (.code 1) w)
  have HS := Kp.mk ((St.start hE).alloc (.cells #[.string (mkB rn), .int .i64 rt, .int .i64 rc, .int .u32 rl, .bool v6, .int .u8 (b 0), .int .u8 (b 1), .int .u8 (b 2), .int .u8 (b 3), .int .u8 (b 4), .int .u8 (b 5), .int .u8 (b 6), .int .u8 (b 7), .int .u8 (b 8), .int .u8 (b 9), .int .u8 (b 10), .int .u8 (b 11), .int .u8 (b 12), .int .u8 (b 13), .int .u8 (b 14), .int .u8 (b 15), .string (mkB rtg), .slice A rd.length c] 37))
  have Hg := Kp.mk (heap_new w (.cells #[.string (mkB rn), .int .i64 rt, .int .i64 rc, .int .u32 rl, .bool v6, .int .u8 (b 0), .int .u8 (b 1), .int .u8 (b 2), .int .u8 (b 3), .int .u8 (b 4), .int .u8 (b 5), .int .u8 (b 6), .int .u8 (b 7), .int .u8 (b 8), .int .u8 (b 9), .int .u8 (b 10), .int .u8 (b 11), .int .u8 (b 12), .int .u8 (b 13), .int .u8 (b 14), .int .u8 (b 15), .string (mkB rtg), .slice A rd.length c] 37))
  have HR := Kp.mk hr
  clear hE hr
  dsimp only at hs ht hd
  go_enter Tryz.func22, Tryz.ntmps22
  go_wp2_with (with_reducible refine ld_blk rfl 37 (.tmp 1) rfl w.heap.size rfl Hg Tryz.underlying37 rfl (by kernel_rfl) ?_)
  refine b_ (asked_calls ⟨rn, rt, rc, rl, ⟨v6, b⟩, rtg, rd⟩ A rd.length c _) HS ?_
  intro w1 HB1 HS1
  have Hg1 := Kp.mk ((HB1.out.block _ (heap_lt Hg.out)).trans Hg.out)
  by_cases hq : Qu.right ⟨rn, rt, rc⟩ = true
  · have HQ := Kp.mk hq
    clear hq
    go_wp2_with (fail)
    refine g2sn_ (wq_good ⟨rn, rt, rc⟩ _ HS1.out.env hs HQ.out) HS1 ?_
    intro A2 c2 w2 hc2 hcm2 HC2 HM2 HB2 HS2
    have Hg2 := Kp.mk ((HB2.out.block _ (heap_lt Hg1.out)).trans Hg1.out)
    go_wp2_with (with_reducible refine ld_blkG (by kernel_rfl) 37 (.tmp 1) rfl w.heap.size rfl Hg2 Tryz.underlying37 rfl (by kernel_rfl) ?_)
    refine b_ (rightRec_calls ⟨rn, rt, rc, rl, ⟨v6, b⟩, rtg, rd⟩ A c _ HS2.out.env hs ht hd) HS2 ?_
    intro w3 HB3 HS3
    rw [HR.out]
    go_wp2
    go_ret2
    exact ⟨_, _, rfl, ⟨_, rfl, Kd.R_nil _ _ _ _ _⟩, er_code _ _ _ _, HS3.out.below⟩
  · have hq' : Qu.right ⟨rn, rt, rc⟩ = false := by simpa using hq
    have HQ := Kp.mk hq'
    clear hq hq'
    go_wp2_with (fail)
    refine g2_ (wq_bad ⟨rn, rt, rc⟩ _ HS1.out.env hs HQ.out) HS1 ?_
    intro v2 v2e w2 HM2 HE2 HB2 HS2
    obtain rfl := er_open_code (erK.K_of_M HE2.out)
    go_wp2
    go_ret2
    exact ⟨_, _, rfl, ⟨_, rfl, Kd.R_nil _ _ _ _ _⟩, er_code _ _ _ _, HS2.out.below⟩
end Go.Proofs.YtclgffblfjhciaaGreatDoor
