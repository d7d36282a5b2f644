/-
  The law RecordBack: what is written is read, wherever it stands; cut anywhere it is none: the walk.
-/
import Derived.Test.YtclgffblfjhciaaGreatDoorZRbA
import Derived.Test.YtclgffblfjhciaaGreatDoorZRecH
import Derived.Test.YtclgffblfjhciaaGreatDoorZPlayS
import Derived.Test.YtclgffblfjhciaaGreatDoorGs
import Derived.Test.YtclgffblfjhciaaGreatDoorZSameRec
import Derived.Test.YtclgffblfjhciaaGreatDoorSameCode
import Derived.Test.YtclgffblfjhciaaGreatDoorZOpenQu
namespace Go.Proofs.YtclgffblfjhciaaGreatDoor
open Go.RowKit Go.Proofs.YtclgffblfjhciaaGreatDoorW.PrintWords
set_option linter.unusedVariables false
set_option linter.unusedSimpArgs false
set_option maxRecDepth 100000
set_option maxHeartbeats 2000000

theorem playR_lensB (r : Rec) : (playR r).name.length ≤ 60 ∧ (playR r).tgt.length ≤ 60 ∧ (playR r).data.length ≤ 40 := by
  refine ⟨(playN_right r.name).2, ?_, ?_⟩
  · unfold playR
    dsimp only
    split
    · exact (playN_right r.tgt).2
    · decide
  · unfold playR
    dsimp only
    split
    · decide
    · rw [List.length_take]; omega
theorem playAd_ok (a : Ad) (v : Bool) (h : a.ok) : (playAd a v).ok := by
  intro i hi
  have := h i hi
  unfold playAd
  dsimp only
  split
  · decide
  · exact this
theorem playR_ok (r : Rec) (h : r.ok) : (playR r).ok := by
  refine ⟨?_, ?_⟩
  · unfold playR
    dsimp only
    split
    · exact playAd_ok _ _ h.ad
    · exact Ad.ok_zero
  · unfold playR
    dsimp only
    split
    · intro x hx; cases hx
    · exact fun x hx => h.data x (List.mem_of_mem_take hx)
theorem put_qu (W : World) (g : Nat) (n n' : L) (t c t' c' : Int) (hg : W.heap[g]? = some (.cells #[.string (mkB n), .int .i64 t, .int .i64 c] 54 (0, 0))) :
    (storeCells ⟨g, 0, none⟩ [.string (mkB n'), .int .i64 t', .int .i64 c'] 0).run Tryz.prog W = .ok () (W.setRow g #[.string (mkB n'), .int .i64 t', .int .i64 c']) :=
  run_storeCells_from (P := Tryz.prog) g 54 [.string (mkB n'), .int .i64 t', .int .i64 c'] 0 _ W hg rfl (fun v hv => by
    simp only [List.mem_cons, List.not_mem_nil, or_false] at hv
    rcases hv with rfl | rfl | rfl <;> rfl)
theorem portV_raw (v : Int) : IntKind.i64.wrap ((IntKind.u64.wrap v).tmod 65536) = portV v := by
  unfold portV wrap64
  rw [IntKind.wrap_i64]
theorem recordBack_walk (w : World) (r : Rec) (A : Option Addr) (c : Nat) (hC : (Kd.int .u8).C w A r.data.length r.data) (hc : r.data.length ≤ c) (hw : r.fit) (q : Qu) (hqf : q.fit)
    (A2 : Option Addr) (n2 c2 : Nat) (xs : List Int) (hC2 : (Kd.int .u8).C w A2 n2 xs) (hc2 : n2 ≤ c2) (hm2 : c2 ≤ 9223372036854775807) (hx2 : Byts xs) (a : Int) (ha1 : -9223372036854775808 ≤ a) (ha2 : a ≤ 9223372036854775807) (hE : Env w) :
    Calls Tryz.prog 7 #[.agg (recA r (.slice A r.data.length c)), .agg #[.string (mkB q.name), .int .i64 q.typ, .int .i64 q.cls], .slice A2 n2 c2, .int .i64 a] w fun e w' => e = .returned (.bool true) ∧ Below w.heap.size w w' := by
  obtain rfl := (C_len hC2).1
  have hname := hw.name
  have htgt := hw.tgt
  have httl := hw.ttl
  have hrt := playR_right r
  obtain ⟨hl1, hl2, hl3⟩ := playR_lensB r
  have hpok := playR_ok r hw.ok
  have hpt : (playR r).ttl = r.ttl := rfl
  have HP := Kp.mk (fun (W : World) (h : (Kd.int .u8).C W A r.data.length r.data) => playRec_calls r A c W h hc hname htgt)
  obtain ⟨pr, hpr⟩ : ∃ pr, playR r = pr := ⟨_, rfl⟩
  rw [hpr] at hrt hl1 hl2 hl3 HP hpok hpt
  rw [← hpt] at httl
  obtain ⟨qn, qt, qc⟩ := q
  obtain ⟨pqn, hpqn⟩ : ∃ n, playN qn = n := ⟨_, rfl⟩
  have hqn := playN_right qn
  have HPN : Kp (∀ W, Calls Tryz.prog 16 #[.string (mkB qn)] W fun e w' => e = .returned (.string (mkB pqn)) ∧ Below W.heap.size W w') := ⟨fun W => hpqn ▸ playnameB qn W hqf.name⟩
  rw [hpqn] at hqn
  have hqr : Qu.right ⟨pqn, portV qt, portV qc⟩ = true := by
    have h2 := portV_range qt
    have h3 := portV_range qc
    simp [Qu.right, hqn.1, within, h2, h3]
  have hbl := wire_le pr hrt
  have hql := wireQ_le _ hqr
  have hwy := byts_wire pr hrt hpok httl.1 httl.2
  have hqy := byts_wireQ _ hqr
  have hwlen := wire_len_rec pr
  obtain ⟨pt, hptt⟩ : ∃ t, portV qt = t := ⟨_, rfl⟩
  obtain ⟨pc, hpcc⟩ : ∃ t, portV qc = t := ⟨_, rfl⟩
  rw [hptt, hpcc] at hqr hql hqy
  have hlaw := fun k => back_law pr ⟨pqn, pt, pc⟩ hrt hqr xs k
  have hnorm := norm_ad pr hrt
  obtain ⟨rn, rt, rc, rl, ⟨v6, b⟩, rtg, rd⟩ := r
  show Calls Tryz.prog 7 #[.agg #[.string (mkB rn), .int .i64 rt, .int .i64 rc, .int .u32 rl, .bool v6, .int .u8 (b 0), .int .u8 (b 1), .int .u8 (b 2), .int .u8 (b 3), .int .u8 (b 4), .int .u8 (b 5), .int .u8 (b 6), .int .u8 (b 7), .int .u8 (b 8), .int .u8 (b 9), .int .u8 (b 10), .int .u8 (b 11), .int .u8 (b 12), .int .u8 (b 13), .int .u8 (b 14), .int .u8 (b 15), .string (mkB rtg), .slice A rd.length c], .agg #[.string (mkB qn), .int .i64 qt, .int .i64 qc], .slice A2 xs.length c2, .int .i64 a] w fun e w' => e = .returned (.bool true) ∧ Below w.heap.size w w'
  have HS0 := Kp.mk (St.start hE)
  obtain ⟨t0, t1, -⟩ := two_new w (.cells #[.string (mkB rn), .int .i64 rt, .int .i64 rc, .int .u32 rl, .bool v6, .int .u8 (b 0), .int .u8 (b 1), .int .u8 (b 2), .int .u8 (b 3), .int .u8 (b 4), .int .u8 (b 5), .int .u8 (b 6), .int .u8 (b 7), .int .u8 (b 8), .int .u8 (b 9), .int .u8 (b 10), .int .u8 (b 11), .int .u8 (b 12), .int .u8 (b 13), .int .u8 (b 14), .int .u8 (b 15), .string (mkB rtg), .slice A rd.length c] 37) (.cells #[.string (mkB qn), .int .i64 qt, .int .i64 qc] 54)
  have HSB := Kp.mk (((St.start hE).alloc (.cells #[.string (mkB rn), .int .i64 rt, .int .i64 rc, .int .u32 rl, .bool v6, .int .u8 (b 0), .int .u8 (b 1), .int .u8 (b 2), .int .u8 (b 3), .int .u8 (b 4), .int .u8 (b 5), .int .u8 (b 6), .int .u8 (b 7), .int .u8 (b 8), .int .u8 (b 9), .int .u8 (b 10), .int .u8 (b 11), .int .u8 (b 12), .int .u8 (b 13), .int .u8 (b 14), .int .u8 (b 15), .string (mkB rtg), .slice A rd.length c] 37)).alloc (.cells #[.string (mkB qn), .int .i64 qt, .int .i64 qc] 54))
  have Hg0 : Kp (((w.alloc (.cells #[.string (mkB rn), .int .i64 rt, .int .i64 rc, .int .u32 rl, .bool v6, .int .u8 (b 0), .int .u8 (b 1), .int .u8 (b 2), .int .u8 (b 3), .int .u8 (b 4), .int .u8 (b 5), .int .u8 (b 6), .int .u8 (b 7), .int .u8 (b 8), .int .u8 (b 9), .int .u8 (b 10), .int .u8 (b 11), .int .u8 (b 12), .int .u8 (b 13), .int .u8 (b 14), .int .u8 (b 15), .string (mkB rtg), .slice A rd.length c] 37)).alloc (.cells #[.string (mkB qn), .int .i64 qt, .int .i64 qc] 54)).heap[w.heap.size]? = some (.cells #[.string (mkB rn), .int .i64 rt, .int .i64 rc, .int .u32 rl, .bool v6, .int .u8 (b 0), .int .u8 (b 1), .int .u8 (b 2), .int .u8 (b 3), .int .u8 (b 4), .int .u8 (b 5), .int .u8 (b 6), .int .u8 (b 7), .int .u8 (b 8), .int .u8 (b 9), .int .u8 (b 10), .int .u8 (b 11), .int .u8 (b 12), .int .u8 (b 13), .int .u8 (b 14), .int .u8 (b 15), .string (mkB rtg), .slice A rd.length c] 37 (0, 0))) := ⟨t0⟩
  have Hq0 : Kp (((w.alloc (.cells #[.string (mkB rn), .int .i64 rt, .int .i64 rc, .int .u32 rl, .bool v6, .int .u8 (b 0), .int .u8 (b 1), .int .u8 (b 2), .int .u8 (b 3), .int .u8 (b 4), .int .u8 (b 5), .int .u8 (b 6), .int .u8 (b 7), .int .u8 (b 8), .int .u8 (b 9), .int .u8 (b 10), .int .u8 (b 11), .int .u8 (b 12), .int .u8 (b 13), .int .u8 (b 14), .int .u8 (b 15), .string (mkB rtg), .slice A rd.length c] 37)).alloc (.cells #[.string (mkB qn), .int .i64 qt, .int .i64 qc] 54)).heap[w.heap.size + 1]? = some (.cells #[.string (mkB qn), .int .i64 qt, .int .i64 qc] 54 (0, 0))) := ⟨t1⟩
  have HC0 := Kp.mk (Kd.C_below hC HSB.out.below)
  have HX := Kp.mk (Kd.C_below hC2 HSB.out.below)
  have HXW := Kp.mk hC2
  have HX8 := Kp.mk hx2
  by_cases g1 : (300 : Int) < (xs.length : Int)
  · clear hE hC hw hpr hname htgt hC2 hx2 hrt hpok hqn hqr hwy hqy hlaw hnorm hqf hwlen hpt hptt hpcc hpqn
    have bg : decide ((300 : Int) < (xs.length : Int)) = true := by simpa using g1
    clear g1
    go_enter Tryz.func7, Tryz.ntmps7
    go_wp2_with (fail)
    refine b_ (awake13_calls _ HSB.out.env) HSB ?_
    intro w1 HB1 HS1
    go_wp2
    go_ret
    exact ⟨rfl, HS1.out.below⟩
  have bg : decide ((300 : Int) < (xs.length : Int)) = false := by simpa using g1
  have hx300 : xs.length ≤ 300 := by omega
  have hwr1 : 1 ≤ pr.wire.length := by rw [hwlen]; omega
  obtain ⟨N, hN, hNe⟩ := umod a pr.wire.length (by omega) (by omega)
  obtain ⟨law1, law2, law3, law4⟩ := hlaw N (by omega)
  obtain ⟨er, law4, herr⟩ := law4
  have hyx : Byts (xs ++ pr.wire ++ Qu.wire ⟨pqn, pt, pc⟩) := byts_app (byts_app hx2 hwy) hqy
  have HWR := Kp.mk (fun (W : World) A c (hE : Env W) (h : (Kd.int .u8).C W A pr.data.length pr.data) (hc : pr.data.length ≤ c) => wr_good pr A c W hE h hc hrt (by omega) (by omega) httl.1 httl.2)
  have HWQ := Kp.mk (fun (W : World) (hE : Env W) => wq_good ⟨pqn, pt, pc⟩ W hE (by show pqn.length < 4294967281; have := hqn.2; omega) hqr)
  obtain ⟨wr, hwre⟩ : ∃ wr, pr.wire = wr := ⟨_, rfl⟩
  obtain ⟨wq, hwqe⟩ : ∃ wq, Qu.wire ⟨pqn, pt, pc⟩ = wq := ⟨_, rfl⟩
  rw [hwre] at hbl hwy hwr1 law1 law2 law3 law4 hyx HWR hN hNe
  rw [hwqe] at hql hqy law1 law2 law3 law4 hyx HWQ
  have HL1 := Kp.mk law1
  have HL2 := Kp.mk law2
  have HL3 := Kp.mk law3
  have HL4 := Kp.mk law4
  have HER := Kp.mk herr
  have HNE := Kp.mk hNe
  have HYX := Kp.mk hyx
  have HPT := Kp.mk hptt
  have HPC := Kp.mk hpcc
  obtain ⟨pn, pty, pcl, pl, ⟨pv, pb⟩, pg, pd⟩ := pr
  obtain ⟨nb, hn1, hn3⟩ : ∃ nb : Nat → Int, Rec.norm ⟨pn, pty, pcl, pl, ⟨pv, pb⟩, pg, pd⟩ = ⟨pn, pty, pcl, pl, ⟨pv, nb⟩, pg, pd⟩ ∧ eq16 [nb 0, nb 1, nb 2, nb 3, nb 4, nb 5, nb 6, nb 7, nb 8, nb 9, nb 10, nb 11, nb 12, nb 13, nb 14, nb 15] [pb 0, pb 1, pb 2, pb 3, pb 4, pb 5, pb 6, pb 7, pb 8, pb 9, pb 10, pb 11, pb 12, pb 13, pb 14, pb 15] = true := ⟨(Rec.norm ⟨pn, pty, pcl, pl, ⟨pv, pb⟩, pg, pd⟩).ad.b, by
    have h : (Rec.norm ⟨pn, pty, pcl, pl, ⟨pv, pb⟩, pg, pd⟩).ad.v6 = pv := hnorm.1
    exact (show Rec.norm ⟨pn, pty, pcl, pl, ⟨pv, pb⟩, pg, pd⟩ = ⟨pn, pty, pcl, pl, ⟨(Rec.norm ⟨pn, pty, pcl, pl, ⟨pv, pb⟩, pg, pd⟩).ad.v6, (Rec.norm ⟨pn, pty, pcl, pl, ⟨pv, pb⟩, pg, pd⟩).ad.b⟩, pg, pd⟩ from rfl).trans (by rw [h]), eq16_of hnorm.2⟩
  rw [hn1] at HL1
  have HL4' : Kp (recR ((xs ++ wr ++ wq).take (xs.length + N)) (xs.length : Int) = (⟨[], 0, 0, 0, ⟨false, fun _ => 0⟩, [], []⟩, 0, er)) := HL4
  have HN3 := Kp.mk hn3
  clear HL4 hn1 hn3
  clear hE hC hw hpr hname htgt hC2 hx2 hrt hpok hqn hqr hwy hqy hlaw hnorm hqf hwlen hpt hptt hpcc hpqn law1 law2 law3 law4 herr hNe hyx hwre hwqe t0 t1 g1
  dsimp only at hl1 hl2 hl3 httl HP HWR
  go_enter Tryz.func7, Tryz.ntmps7
  go_wp2_with (with_reducible refine ld_blk rfl 37 (.tmp 4) rfl w.heap.size rfl Hg0 Tryz.underlying37 rfl (by kernel_rfl) ?_)
  refine (HP.out _ HC0.out).mono ?_
  rintro e1 w1 ⟨A1, c1, rfl, hR1, hB1⟩
  have Hg1 := Kp.mk ((hB1.block _ (heap_lt Hg0.out)).trans Hg0.out)
  have Hq1 := Kp.mk ((hB1.block _ (heap_lt Hq0.out)).trans Hq0.out)
  have HS1 := Kp.mk (HSB.out.step hB1)
  have HL1b := Kp.mk HS1.out.below
  have HR1 := Kp.mk hR1
  have HX1 := Kp.mk (Kd.C_below HX.out hB1)
  clear hR1 hB1
  go_wp2_with (with_reducible refine st_blk (w0 := w) (base := w.heap.size) rfl 37 (.tmp 4) (.tmp 28) rfl rfl w.heap.size _ rfl rfl Hg1 (by kernel_rfl) (by kernel_rfl) (by kernel_rfl) HL1b (Nat.le_refl _) ?_)
  intro w2 Hg2 HO2 HB2 hs2
  have HR2 := Kp.mk (R_stored HR1.out (by simp; omega) HO2.out)
  have HC2 := Kp.mk (R_C HR2.out).1
  have hc1 := (R_C HR2.out).2
  have Hq2 := Kp.mk ((HO2.out (w.heap.size + 1) (by omega)).trans Hq1.out)
  have HS2 : Kp (St w w2) := ⟨⟨HB2.out, HS0.out.env.below HB2.out⟩⟩
  have HX2 := Kp.mk (Kd.C_below HXW.out HB2.out)
  clear hs2 HO2 HL1b HR1 HX1 Hg1 Hq1 HX
  have F0 : Kp (w2.drew.cell? ⟨w.heap.size + 1, 0, none⟩ = some (.string (mkB qn))) := ⟨by have := blk_cell Hq2.out 0; simpa using this⟩
  have F1 : Kp (w2.drew.cell? ⟨w.heap.size + 1, 1, none⟩ = some (.int .i64 qt)) := ⟨by have := blk_cell Hq2.out 1; simpa using this⟩
  have F2 : Kp (w2.drew.cell? ⟨w.heap.size + 1, 2, none⟩ = some (.int .i64 qc)) := ⟨by have := blk_cell Hq2.out 2; simpa using this⟩
  have f0 := blk_cell Hq2.out 0
  have f1 := blk_cell Hq2.out 1
  have f2 := blk_cell Hq2.out 2
  go_upto_region 4 with (fail)
  go_cut [] (fun wx => Kp (wx.heap[w.heap.size]? = some (.cells (recA ⟨pn, pty, pcl, pl, ⟨pv, pb⟩, pg, pd⟩ (.slice A1 pd.length c1)) 37 (0, 0)) ∧ wx.heap[w.heap.size + 1]? = some (.cells #[.string (mkB pqn), .int .i64 pt, .int .i64 pc] 54 (0, 0)) ∧ Below w.heap.size w wx ∧ (Kd.int .u8).C wx A1 pd.length pd))
  case first =>
    obtain ⟨X, hX, hXr⟩ : ∃ X : Addr → List Value → Nat → Sem Unit, (∀ p l, storeCells p l 0 = X p l 0) ∧ (∀ (W : World) (g : Nat) (n n' : L) (t c t' c' : Int), W.heap[g]? = some (.cells #[.string (mkB n), .int .i64 t, .int .i64 c] 54 (0, 0)) → (X ⟨g, 0, none⟩ [.string (mkB n'), .int .i64 t', .int .i64 c'] 0).run Tryz.prog W = .ok () (W.setRow g #[.string (mkB n'), .int .i64 t', .int .i64 c'])) := ⟨fun a l i => storeCells a l i, fun _ _ => rfl, put_qu⟩
    go_region_with ((go_at_call 16; (with_reducible refine (HPN.out _).mono ?_); rintro e3 w3 ⟨rfl, hb3⟩; have HB3 := Kp.mk hb3; have k3 := pw_cell_below hb3 F0.out; have k4 := pw_cell_below hb3 F1.out; have k5 := pw_cell_below hb3 F2.out; have hg3 := fun n' t' c' => hXr w3 _ qn n' qt qc t' c' (newA hb3 Hq2.out); clear hb3))
    all_goals
      clear hX hXr hg3
      have hb3 : Below w2.heap.size w2 w3 := ⟨HB3.out.os, HB3.out.tape, HB3.out.output, HB3.out.size, HB3.out.block⟩
      have hHr := newA hb3 Hg2.out
      have hHq := setRow_heap w3 (w.heap.size + 1) _ #[.string (mkB pqn), .int .i64 pt, .int .i64 pc] _ _ (newA hb3 Hq2.out)
      have hbb := below_step HB2.out hb3
      have hHD := (R_C (R_stored (Kd.R_below HR2.out hb3) (g := w.heap.size + 1) (w' := w3.setRow (w.heap.size + 1) #[.string (mkB pqn), .int .i64 pt, .int .i64 pc]) (by simp) (fun k hk => setRow_other w3 _ k _ hk))).1
      rw [portV_raw, portV_raw, HPT.out, HPC.out]
      have hHB : Below w.heap.size w (w3.setRow (w.heap.size + 1) #[.string (mkB pqn), .int .i64 pt, .int .i64 pc]) := ⟨hbb.os, hbb.tape, hbb.output, by rw [size_setRow]; exact hbb.size, fun k hk => (setRow_other w3 _ k _ (by omega)).trans (hbb.block k hk)⟩
      have HREL := Kp.mk (And.intro ((setRow_other w3 (w.heap.size + 1) w.heap.size #[.string (mkB pqn), .int .i64 pt, .int .i64 pc] (by omega)).trans hHr) (And.intro hHq (And.intro hHB hHD)))
      clear hb3 hHr hHq hbb hHD hHB k3 k4 k5
      generalize w3.setRow (w.heap.size + 1) #[.string (mkB pqn), .int .i64 pt, .int .i64 pc] = wx at HREL ⊢
      clear HB3
      go_wp2_with (fail)
      go_meet
      exact HREL
  case rest =>
    obtain ⟨hcr, hcq, hcb, hcd⟩ := hcut.out
    have Hg4 := Kp.mk hcr
    have Hq4 := Kp.mk hcq
    have HS4 : Kp (St w wc) := ⟨⟨hcb, HS0.out.env.below hcb⟩⟩
    have HD4 := Kp.mk hcd
    have HX4 := Kp.mk (Kd.C_below HXW.out hcb)
    clear hcr hcq hcb hcd hcut HR2 HC2 Hq2 Hg2 F0 F1 F2 f0 f1 f2 HX2 HB2 HS2
    go_wp2_with (with_reducible refine ld_blk rfl 37 (.tmp 4) rfl w.heap.size rfl Hg4 Tryz.underlying37 rfl (by kernel_rfl) ?_)
    refine g2sn_ (HWR.out _ A1 c1 HS4.out.env HD4.out hc1) HS4 ?_
    intro A5 c5 w5 hc5 hcm5 HC5 HM5 HB5 HS5
    have Hg5 := Kp.mk ((HB5.out.block _ (heap_lt Hg4.out)).trans Hg4.out)
    have Hq5 := Kp.mk ((HB5.out.block _ (heap_lt Hq4.out)).trans Hq4.out)
    have q0 := blk_cell Hq5.out 0
    have q1 := blk_cell Hq5.out 1
    have q2 := blk_cell Hq5.out 2
    go_wp2_with (fail)
    refine g2sn_ (HWQ.out _ HS5.out.env) HS5 ?_
    intro A6 c6 w6 hc6 hcm6 HC6 HM6 HB6 HS6
    have HC5b := Kp.mk (Kd.C_below HC5.out HB6.out)
    have HX6 := Kp.mk (Kd.C_below HX4.out (below_step HB5.out HB6.out))
    have Hg6 := Kp.mk ((HB6.out.block _ (heap_lt Hg5.out)).trans Hg5.out)
    have Hq6 := Kp.mk ((HB6.out.block _ (heap_lt Hq5.out)).trans Hq5.out)
    clear Hg4 Hq4 Hg5 Hq5 q0 q1 q2 HC5 HM5 HM6
    go_wp2_with (at_builtin; (with_reducible refine gate_builtin (b := .append) (xs := #[.const (.slice none 0 0), .tmp 53]) rfl ?_); go_must (refine app_bytes (w0 := w6) (base := w6.heap.size) (s := .const (.slice none 0 0)) (x := .tmp 53) (v := .slice none 0 0) rfl rfl [] xs A2 xs.length c2 rfl rfl (Kd.R_nil _ _ _ _ _) HX6.out (Below.refl _ _) (Nat.le_refl _) (by show 0 + xs.length ≤ _; omega) ?_))
    intro v7 w7 HR7 HB7 hs7
    obtain ⟨A7, c7, rfl⟩ := Kd.R_slice HR7.out
    have HC57 := Kp.mk (Kd.C_below HC5b.out HB7.out)
    go_wp2_with (at_builtin; (with_reducible refine gate_builtin (b := .append) (xs := #[.tmp 54, .tmp 55]) rfl ?_); go_must (refine app_bytes (w0 := w6) (base := w6.heap.size) (s := .tmp 54) (x := .tmp 55) (v := .slice A7 xs.length c7) rfl rfl xs wr A5 wr.length c5 rfl rfl HR7.out HC57.out HB7.out hs7.out (by omega) ?_))
    intro v8 w8 HR8 HB8 hs8
    obtain ⟨ys, hys⟩ : ∃ ys, xs ++ wr = ys := ⟨_, rfl⟩
    have hyl : ys.length = xs.length + wr.length := by rw [← hys, List.length_append]
    rw [hys] at HR8
    obtain ⟨A8, c8, rfl⟩ := Kd.R_slice HR8.out
    have HC68 := Kp.mk (Kd.C_below HC6.out HB8.out)
    go_wp2_with (at_builtin; (with_reducible refine gate_builtin (b := .append) (xs := #[.tmp 56, .tmp 57]) rfl ?_); go_must (refine app_bytes (w0 := w6) (base := w6.heap.size) (s := .tmp 56) (x := .tmp 57) (v := .slice A8 ys.length c8) rfl rfl ys wq A6 wq.length c6 rfl rfl HR8.out HC68.out HB8.out hs8.out (by omega) ?_))
    intro v9 w9 HR9 HB9 hs9
    obtain ⟨zs, hzs⟩ : ∃ zs, xs ++ wr ++ wq = zs := ⟨_, rfl⟩
    have hzl : zs.length = xs.length + wr.length + wq.length := by rw [← hzs, List.length_append, List.length_append]
    rw [← hys, hzs] at HR9
    rw [hzs] at HL1 HL2 HL3 HL4' HYX
    obtain ⟨A9, c9, rfl⟩ := Kd.R_slice HR9.out
    have HC9 := Kp.mk (R_C HR9.out).1
    have hc9 := (R_C HR9.out).2
    have hcm9 := R_cap HR9.out
    have HS9 := Kp.mk (HS6.out.step HB9.out)
    have Hg9 := Kp.mk ((HB9.out.block _ (heap_lt Hg6.out)).trans Hg6.out)
    have Hq9 := Kp.mk ((HB9.out.block _ (heap_lt Hq6.out)).trans Hq6.out)
    have HD9 := Kp.mk (Kd.C_below HD4.out (below_step HB5.out (below_step HB6.out HB9.out)))
    have hzle : zs.length ≤ 140737488355328 := by omega
    have HYS := Kp.mk hys
    have HZS := Kp.mk hzs
    have HZL := Kp.mk hzl
    clear hzl hyl HR7 HR8 HR9 HB7 HB8 HC57 HC68 HC5b HC6 HX6 Hg6 Hq6 hys hzs HX4 HD4 HWR HWQ
    go_wp2_with (fail)
    refine (recRead_calls A9 c9 zs (xs.length : Int) _ _ _ _ HC9.out HYX.out hc9 hcm9 HS9.out.env hzle (by omega) HL1.out).mono ?_
    rintro e10 wa ⟨dv, va, rfl, hRa, hMa, hBa⟩
    obtain ⟨Aa, ca, rfl⟩ := Kd.R_slice hRa
    obtain rfl := er_open_none (erK.K_of_M hMa)
    have HCa := Kp.mk (R_C hRa).1
    have hca := (R_C hRa).2
    have HSa := Kp.mk (HS9.out.step hBa)
    have HC9a := Kp.mk (Kd.C_below HC9.out hBa)
    have Hga := Kp.mk ((hBa.block _ (heap_lt Hg9.out)).trans Hg9.out)
    have Hqa := Kp.mk ((hBa.block _ (heap_lt Hq9.out)).trans Hq9.out)
    have HDa := Kp.mk (Kd.C_below HD9.out hBa)
    have HZa := Kp.mk (HSa.out.below.alloc HSa.out.size (.cells #[.string ⟨#[]⟩, .int .i64 0, .int .i64 0, .int .u32 0, .bool false, .int .u8 0, .int .u8 0, .int .u8 0, .int .u8 0, .int .u8 0, .int .u8 0, .int .u8 0, .int .u8 0, .int .u8 0, .int .u8 0, .int .u8 0, .int .u8 0, .int .u8 0, .int .u8 0, .int .u8 0, .int .u8 0, .string ⟨#[]⟩, .slice none 0 0] 37))
    clear hRa hMa hBa HC9 Hg9 Hq9 HD9
    go_wp2_with (with_reducible refine st_blk (w0 := w) (base := w.heap.size) rfl 37 (.tmp 14) (.tmp 64) rfl rfl wa.heap.size _ rfl rfl ⟨heap_new _ _⟩ (by kernel_rfl) (by kernel_rfl) (by kernel_rfl) HZa HSa.out.size ?_)
    intro wb Hub HOb HBb hsb
    have hBab := stored_new HSa.out.below HBb.out hsb HOb.out
    have HSb := Kp.mk (HSa.out.step hBab)
    have HC9b := Kp.mk (Kd.C_below HC9a.out hBab)
    have HCb := Kp.mk (Kd.C_below HCa.out hBab)
    have Hgb := Kp.mk ((hBab.block _ (heap_lt Hga.out)).trans Hga.out)
    have Hqb := Kp.mk ((hBab.block _ (heap_lt Hqa.out)).trans Hqa.out)
    have HDb := Kp.mk (Kd.C_below HDa.out hBab)
    clear hsb hBab HOb HBb HZa HCa HC9a Hga Hqa HDa
    go_wp2_with (fail)
    refine (quRead_calls A9 c9 zs _ _ _ _ _ HC9b.out HYX.out hc9 hcm9 HSb.out.env hzle (by omega) HL2.out).mono ?_
    rintro e11 wc' ⟨v11, rfl, hM11, hB11⟩
    obtain rfl := er_open_none (erK.K_of_M hM11)
    have hBq := (Below.refl wc'.heap.size wc').alloc (Nat.le_refl _) (.cells #[.string (mkB pqn), .int .i64 pt, .int .i64 pc] 54)
    have hB11q := below_step hB11 hBq
    have HSc := Kp.mk (HSb.out.step hB11q)
    have HC9c := Kp.mk (Kd.C_below HC9b.out hB11q)
    have HCc := Kp.mk (Kd.C_below HCb.out hB11q)
    have Hgc := Kp.mk ((hB11q.block _ (heap_lt Hgb.out)).trans Hgb.out)
    have Hqc := Kp.mk ((hB11q.block _ (heap_lt Hqb.out)).trans Hqb.out)
    have HDc := Kp.mk (Kd.C_below HDb.out hB11q)
    have Huc := Kp.mk ((hB11q.block _ (heap_lt Hub.out)).trans Hub.out)
    have Hwc := Kp.mk (heap_new wc' (.cells #[.string (mkB pqn), .int .i64 pt, .int .i64 pc] 54))
    clear hM11 hB11 hBq hB11q HC9b HCb Hgb Hqb HDb Hub
    have hk : wrap64 ((IntKind.u64.wrap a).tmod (max 1 (wr.length : Int))) = (N : Int) := by rw [Int.max_eq_right (by omega)]; exact HNE.out
    have hNc : (xs.length : Int) + (N : Int) ≤ (c9 : Int) := by have := HZL.out; omega
    have hN1 : (N : Int) ≤ 1282 := by omega
    have htn : ((xs.length : Int) + (N : Int)).toNat = xs.length + N := by omega
    go_wp2_with (fail)
    have hC12 := Kd.C_take (m := xs.length + N) HC9c.out (by have := HZL.out; omega)
    have hrc := recRead_calls A9 c9 (zs.take (xs.length + N)) (xs.length : Int) _ _ _ _ hC12 (byts_take HYX.out _) (by rw [HL3.out]; omega) hcm9 HSc.out.env (by rw [HL3.out]; omega) (by omega) HL4'.out
    rw [HL3.out] at hrc
    refine hrc.mono ?_
    clear hrc hC12
    rintro e12 wd ⟨dv', v12, rfl, hR12, hM12, hB12⟩
    obtain ⟨A12, c12, rfl⟩ := Kd.R_slice hR12
    clear hk htn hNc hN1
    have HSd := Kp.mk (HSc.out.step hB12)
    have HCd := Kp.mk (Kd.C_below HCc.out hB12)
    have Hgd := Kp.mk ((hB12.block _ (heap_lt Hgc.out)).trans Hgc.out)
    have Hqd := Kp.mk ((hB12.block _ (heap_lt Hqc.out)).trans Hqc.out)
    have HDd := Kp.mk (Kd.C_below HDc.out hB12)
    have Hud := Kp.mk ((hB12.block _ (heap_lt Huc.out)).trans Huc.out)
    have Hwd := Kp.mk ((hB12.block _ (heap_lt Hwc.out)).trans Hwc.out)
    have HZd := Kp.mk (HSd.out.below.alloc HSd.out.size (.cells #[.string ⟨#[]⟩, .int .i64 0, .int .i64 0, .int .u32 0, .bool false, .int .u8 0, .int .u8 0, .int .u8 0, .int .u8 0, .int .u8 0, .int .u8 0, .int .u8 0, .int .u8 0, .int .u8 0, .int .u8 0, .int .u8 0, .int .u8 0, .int .u8 0, .int .u8 0, .int .u8 0, .int .u8 0, .string ⟨#[]⟩, .slice none 0 0] 37))
    have HM12 := Kp.mk (erK.K_of_M hM12)
    clear hM12 hB12 hR12 HC9c HCc Hgc Hqc HDc Huc Hwc
    go_wp2_with (with_reducible refine st_blk (w0 := w) (base := w.heap.size) rfl 37 (.tmp 20) (.tmp 92) rfl rfl wd.heap.size _ rfl rfl ⟨heap_new _ _⟩ (by kernel_rfl) (by kernel_rfl) (by kernel_rfl) HZd HSd.out.size ?_)
    intro we Hxe HOe HBe hse
    have hBde := stored_new HSd.out.below HBe.out hse HOe.out
    have HSe := Kp.mk (HSd.out.step hBde)
    have HCe := Kp.mk (Kd.C_below HCd.out hBde)
    have Hge := Kp.mk ((hBde.block _ (heap_lt Hgd.out)).trans Hgd.out)
    have Hqe := Kp.mk ((hBde.block _ (heap_lt Hqd.out)).trans Hqd.out)
    have HDe := Kp.mk (Kd.C_below HDd.out hBde)
    have Hue := Kp.mk ((hBde.block _ (heap_lt Hud.out)).trans Hud.out)
    have Hwe := Kp.mk ((hBde.block _ (heap_lt Hwd.out)).trans Hwd.out)
    have HMe := Kp.mk (erK.K_below hBde HM12.out)
    clear hse hBde HOe HBe HZd HCd Hgd Hqd HDd Hud Hwd HM12 Hxe
    go_wp2_with (fail)
    refine b_ (awake13_calls _ HSe.out.env) HSe ?_
    intro wf HBf HSf
    have HCf := Kp.mk (Kd.C_below HCe.out HBf.out)
    have Hgf := Kp.mk ((HBf.out.block _ (heap_lt Hge.out)).trans Hge.out)
    have Hqf := Kp.mk ((HBf.out.block _ (heap_lt Hqe.out)).trans Hqe.out)
    have HDf := Kp.mk (Kd.C_below HDe.out HBf.out)
    have Huf := Kp.mk ((HBf.out.block _ (heap_lt Hue.out)).trans Hue.out)
    have Hwf := Kp.mk ((HBf.out.block _ (heap_lt Hwe.out)).trans Hwe.out)
    have HMf := Kp.mk (erK.K_below HBf.out HMe.out)
    clear HCe Hge Hqe HDe Hue Hwe HMe
    go_wp2_with (first | (with_reducible refine ld_blkG (by kernel_rfl) 37 (.tmp 14) rfl wa.heap.size rfl Huf Tryz.underlying37 rfl (by kernel_rfl) ?_) | (with_reducible refine ld_blkG (by kernel_rfl) 37 (.tmp 4) rfl w.heap.size rfl Hgf Tryz.underlying37 rfl (by kernel_rfl) ?_))
    refine b_ (sameRec_calls pn pty pcl pl pv nb pb pg pd Aa A1 ca c1 _ HN3.out HCf.out hca HDf.out hc1) HSf ?_
    intro wg HBg HSg
    have hqg := (HBg.out.block _ (heap_lt Hqf.out)).trans Hqf.out
    have hwg := (HBg.out.block _ (heap_lt Hwf.out)).trans Hwf.out
    have q0 := blk_cell hqg 0
    have q1 := blk_cell hqg 1
    have q2 := blk_cell hqg 2
    have r0 := blk_cell hwg 0
    have r1 := blk_cell hwg 1
    have r2 := blk_cell hwg 2
    have HMg := Kp.mk (erK.K_below HBg.out HMf.out)
    clear hqg hwg
    go_wp2_with (fail)
    refine b_ (scode_calls _ _ _ HMg.out HSg.out.env) HSg ?_
    intro wh HBh HSh
    rw [HER.out]
    go_wp2
    go_ret
    exact ⟨rfl, HSh.out.below⟩
end Go.Proofs.YtclgffblfjhciaaGreatDoor
