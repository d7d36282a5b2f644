/-
  Package record: WriteRecord, where a record may be.
-/
import Derived.Test.YtclgffblfjhciaaGreatDoorZRecG
namespace Go.Proofs.YtclgffblfjhciaaGreatDoor
open Go.RowKit Go.Proofs.YtclgffblfjhciaaGreatDoorW.PrintWords
set_option linter.unusedVariables false
set_option linter.unusedSimpArgs false
set_option maxRecDepth 100000
set_option maxHeartbeats 2000000

theorem wr_good (r : Rec) (A : Option Addr) (c : Nat) (w : World) (hE : Env w) (h : (Kd.int .u8).C w A r.data.length r.data) (hc : r.data.length ≤ c) (hr : r.right = true) (hs : r.name.length < 4294967281) (ht : r.tgt.length < 4294967281) (hl0 : 0 ≤ r.ttl) (hl1 : r.ttl ≤ 4294967295) :
    Calls Tryz.prog 22 #[.agg (recA r (.slice A r.data.length c))] w (Gives2 bytesK erK r.wire .none w) := by
  have hbl := body_len r hr
  have hq : Qu.right ⟨r.name, r.typ, r.cls⟩ = true := by
    have hrr := hr
    unfold Rec.right at hrr
    simp only [Bool.and_eq_true] at hrr
    exact hrr.1
  have hd : r.data.length ≤ 1000 := by
    have hrr := hr
    unfold Rec.right at hrr
    simp only [Bool.and_eq_true, decide_eq_true_eq] at hrr
    exact hrr.2.2.1
  have hql : (Qu.wire ⟨r.name, r.typ, r.cls⟩).length ≤ 260 := by
    have := nameW_len r.name (Qu.right_mk hq).1
    unfold Qu.wire
    simp only [List.length_append]
    show (nameW r.name).length + 2 + 2 ≤ 260
    omega
  obtain ⟨rn, rt, rc, rl, ⟨v6, b⟩, rtg, rd⟩ := r
  have hw : Rec.wire ⟨rn, rt, rc, rl, ⟨v6, b⟩, rtg, rd⟩ = Qu.wire ⟨rn, rt, rc⟩ ++ be32 rl ++ be16 (Rec.body ⟨rn, rt, rc, rl, ⟨v6, b⟩, rtg, rd⟩).length ++ Rec.body ⟨rn, rt, rc, rl, ⟨v6, b⟩, rtg, rd⟩ := rfl
  rw [hw]
  dsimp only at hs ht hd hq hql hl0 hl1 h hc
  obtain ⟨bd, hbd⟩ : ∃ bd, Rec.body ⟨rn, rt, rc, rl, ⟨v6, b⟩, rtg, rd⟩ = bd := ⟨_, rfl⟩
  obtain ⟨qs, hqs⟩ : ∃ qs, Qu.wire ⟨rn, rt, rc⟩ = qs := ⟨_, rfl⟩
  rw [hbd] at hbl ⊢
  rw [hqs] at hql ⊢
  obtain ⟨wr, hwr⟩ : ∃ wr, qs ++ be32 rl ++ be16 bd.length ++ bd = wr := ⟨_, rfl⟩
  rw [hwr]
  have HWR := Kp.mk hwr
  show Calls Tryz.prog 22 #[.agg #[.string (mkB rn), .int .i64 rt, .int .i64 rc, .int .u32 rl, .bool v6, .int .u8 (b 0), .int .u8 (b 1), .int .u8 (b 2), .int .u8 (b 3), .int .u8 (b 4), .int .u8 (b 5), .int .u8 (b 6), .int .u8 (b 7), .int .u8 (b 8), .int .u8 (b 9), .int .u8 (b 10), .int .u8 (b 11), .int .u8 (b 12), .int .u8 (b 13), .int .u8 (b 14), .int .u8 (b 15), .string (mkB rtg), .slice A rd.length c]] w (Gives2 bytesK erK wr .none w)
  have HS := Kp.mk ((St.start hE).alloc (.cells #[.string (mkB rn), .int .i64 rt, .int .i64 rc, .int .u32 rl, .bool v6, .int .u8 (b 0), .int .u8 (b 1), .int .u8 (b 2), .int .u8 (b 3), .int .u8 (b 4), .int .u8 (b 5), .int .u8 (b 6), .int .u8 (b 7), .int .u8 (b 8), .int .u8 (b 9), .int .u8 (b 10), .int .u8 (b 11), .int .u8 (b 12), .int .u8 (b 13), .int .u8 (b 14), .int .u8 (b 15), .string (mkB rtg), .slice A rd.length c] 37))
  have Hg := Kp.mk (heap_new w (.cells #[.string (mkB rn), .int .i64 rt, .int .i64 rc, .int .u32 rl, .bool v6, .int .u8 (b 0), .int .u8 (b 1), .int .u8 (b 2), .int .u8 (b 3), .int .u8 (b 4), .int .u8 (b 5), .int .u8 (b 6), .int .u8 (b 7), .int .u8 (b 8), .int .u8 (b 9), .int .u8 (b 10), .int .u8 (b 11), .int .u8 (b 12), .int .u8 (b 13), .int .u8 (b 14), .int .u8 (b 15), .string (mkB rtg), .slice A rd.length c] 37))
  have HC := Kp.mk (Kd.C_below h HS.out.below)
  have HR := Kp.mk hr
  have HQ := Kp.mk hq
  have HBD := Kp.mk hbd
  have HQS := Kp.mk hqs
  clear hE h hr hq hbd hqs hw hwr
  go_enter Tryz.func22, Tryz.ntmps22
  go_wp2_with (with_reducible refine ld_blk rfl 37 (.tmp 1) rfl w.heap.size rfl Hg Tryz.underlying37 rfl (by kernel_rfl) ?_)
  refine b_ (asked_calls ⟨rn, rt, rc, rl, ⟨v6, b⟩, rtg, rd⟩ A rd.length c _) HS ?_
  intro w1 HB1 HS1
  have Hg1 := Kp.mk ((HB1.out.block _ (heap_lt Hg.out)).trans Hg.out)
  go_wp2_with (fail)
  refine g2sn_ (HQS.out ▸ wq_good ⟨rn, rt, rc⟩ _ HS1.out.env hs HQ.out) HS1 ?_
  intro A2 c2 w2 hc2 hcm2 HC2 HM2 HB2 HS2
  have Hg2 := Kp.mk ((HB2.out.block _ (heap_lt Hg1.out)).trans Hg1.out)
  go_wp2_with (with_reducible refine ld_blkG (by kernel_rfl) 37 (.tmp 1) rfl w.heap.size rfl Hg2 Tryz.underlying37 rfl (by kernel_rfl) ?_)
  refine b_ (rightRec_calls ⟨rn, rt, rc, rl, ⟨v6, b⟩, rtg, rd⟩ A c _ HS2.out.env hs ht (by show rd.length ≤ _; omega)) HS2 ?_
  intro w3 HB3 HS3
  rw [HR.out]
  have Hg3 := Kp.mk ((HB3.out.block _ (heap_lt Hg2.out)).trans Hg2.out)
  have HC2a := Kp.mk (Kd.C_below HC2.out HB3.out)
  go_wp2_with (with_reducible refine ld_blk rfl 37 (.tmp 1) rfl w.heap.size rfl Hg3 Tryz.underlying37 rfl (by kernel_rfl) ?_)
  have HCr := Kp.mk (Kd.C_below HC.out (below_step HB1.out (below_step HB2.out HB3.out)))
  refine gs_ (HBD.out ▸ data_calls ⟨rn, rt, rc, rl, ⟨v6, b⟩, rtg, rd⟩ A c _ HS3.out.env HCr.out hc HR.out ht) HS3 ?_
  intro A4 c4 w4 hc4 hcm4 HC4 HM4 HB4 HS4
  have Hg4 := Kp.mk ((HB4.out.block _ (heap_lt Hg3.out)).trans Hg3.out)
  have HC2b := Kp.mk (Kd.C_below HC2a.out HB4.out)
  obtain ⟨ys, hys⟩ : ∃ ys, qs ++ be32 rl = ys := ⟨_, rfl⟩
  have hyl : ys.length ≤ 264 := by rw [← hys, List.length_append]; show qs.length + 4 ≤ 264; omega
  obtain ⟨zs, hzs⟩ : ∃ zs, ys ++ be16 bd.length = zs := ⟨_, rfl⟩
  have hzl : zs.length ≤ 266 := by rw [← hzs, List.length_append]; show ys.length + 2 ≤ 266; omega
  have H1 : Kp (∀ W, (Kd.int .u8).C W A2 qs.length qs → Calls Tryz.prog 60 #[.slice A2 qs.length c2, .int .u32 rl] W (Gives (Kd.slice 5 (Kd.int .u8)) ys W)) := ⟨fun W h => hys ▸ put32_calls A2 qs.length c2 qs rl W h hc2 (by omega) hl0 hl1⟩
  have H2 : Kp (∀ W A c, (Kd.int .u8).C W A ys.length ys → ys.length ≤ c → Calls Tryz.prog 59 #[.slice A ys.length c, .int .i64 (bd.length : Int)] W (Gives (Kd.slice 5 (Kd.int .u8)) zs W)) := ⟨fun W A c h hc => hzs ▸ put16_calls A ys.length c ys bd.length W h hc (by omega) (by omega) (by omega)⟩
  have H3 : Kp (∀ W A3 c3, (Kd.int .u8).C W A3 zs.length zs → zs.length ≤ c3 → (Kd.int .u8).C W A4 bd.length bd → Calls Tryz.prog 58 #[.slice (some ⟨W.heap.size, 0, none⟩) 2 2] (W.alloc (.cells #[.slice A3 zs.length c3, .slice A4 bd.length c4] 24)) (Gives (Kd.slice 5 (Kd.int .u8)) (zs ++ bd) (W.alloc (.cells #[.slice A3 zs.length c3, .slice A4 bd.length c4] 24)))) := ⟨fun W A3 c3 h hc h4 => by
    have hrows := lit_rows (w := W) (T := 24) [.slice A3 zs.length c3, .slice A4 bd.length c4] [zs, bd] rfl (by show 2 ≤ 9223372036854775807; decide) (fun j hj => by
      have hj' : j < 2 := hj
      match j, hj' with
      | 0, _ => exact ⟨A3, c3, rfl, hc, h⟩
      | 1, _ => exact ⟨A4, c4, rfl, hc4, h4⟩)
    have hfl : [zs, bd].flatten = zs ++ bd := by simp
    have hcat := concatB_calls _ 2 [zs, bd] _ hrows (by rw [hfl, List.length_append]; omega)
    rw [hfl] at hcat
    exact hcat⟩
  have HY := Kp.mk hys
  have HZ := Kp.mk hzs
  clear HC2 HM2 hys hzs
  have f3 := blk_cell Hg4.out 3
  go_wp2_with (fail)
  refine gs_ (H1.out _ HC2b.out) HS4 ?_
  intro A5 c5 w5 hc5 hcm5 HC5 HM5 HB5 HS5
  go_wp2_with (fail)
  refine gs_ (H2.out _ _ _ HC5.out hc5) HS5 ?_
  intro A6 c6 w6 hc6 hcm6 HC6 HM6 HB6 HS6
  have HC4c := Kp.mk (Kd.C_below (Kd.C_below HC4.out HB5.out) HB6.out)
  have HSa := Kp.mk (HS6.out.alloc (.cells #[.slice A6 zs.length c6, .slice A4 bd.length c4] 24))
  go_wp2_with (fail)
  refine gs_ (H3.out _ _ _ HC6.out hc6 HC4c.out) HSa ?_
  intro A7 c7 w7 hc7 hcm7 HC7 HM7 HB7 HS7
  go_wp2
  go_ret2
  have h7 := HM7.out
  rw [List.length_append] at h7
  exact ⟨_, _, rfl, (by rw [← HWR.out, HY.out, HZ.out]; obtain ⟨v', hv, hR⟩ := h7; exact ⟨v', hv, Kd.R_lower hR HSa.out.size⟩), er_none _ _ _, HS7.out.below⟩
end Go.Proofs.YtclgffblfjhciaaGreatDoor
