/-
  The law DnsmsgBack: what is written is parsed; what is parsed may be written, and is parsed as it was, unless it is too long then: the walk.
-/
import Derived.Test.YtlkneoednkhleaaGreatDoorGv
import Derived.Test.YtlkneoednkhleaaGreatDoorZDmR
import Derived.Test.YtlkneoednkhleaaGreatDoorGu
import Derived.Test.YtlkneoednkhleaaGreatDoorGs
import Derived.Test.YtlkneoednkhleaaGreatDoorSameCode
namespace Go.Proofs.YtlkneoednkhleaaGreatDoor
open Go.RowKit Go.Proofs.YtlkneoednkhleaaGreatDoorW.PrintWords
set_option linter.unusedVariables false
set_option linter.unusedSimpArgs false
set_option maxRecDepth 100000
set_option maxHeartbeats 2000000

theorem right_len (s : L) (h : rightL s = true) : s.length ≤ 255 := by
  have h1 := (right_labels s h).1
  have h2 := join_len (labelsOf s)
  rw [name_labels] at h2
  omega
theorem all_big {z : Msg} (h6 : ∀ j, j < z.an.length → (z.an.getD j Rec.zero).data.length ≤ 1000) (h7 : ∀ j, j < z.au.length → (z.au.getD j Rec.zero).data.length ≤ 1000) (h8 : ∀ j, j < z.ex.length → (z.ex.getD j Rec.zero).data.length ≤ 1000) : ∀ r ∈ z.all, r.data.length ≤ 1000 := by
  have hget : ∀ (l : List Rec), (∀ j, j < l.length → (l.getD j Rec.zero).data.length ≤ 1000) → ∀ r ∈ l, r.data.length ≤ 1000 := by
    intro l h r hr
    obtain ⟨j, hj, rfl⟩ := List.getElem_of_mem hr
    have := h j hj
    rw [List.getD_eq_getElem?_getD, List.getElem?_eq_getElem hj] at this
    exact this
  intro r hr
  rcases mem_all.1 hr with hr | hr | hr
  · exact hget _ h6 r hr
  · exact hget _ h7 r hr
  · exact hget _ h8 r hr
/-- What is parsed may be written, or it is too long. -/
theorem back_write (bs : List Int) (hx : Byts bs) (z : Msg) (h : parseM bs = (z, .none)) (hb : ∀ r ∈ z.all, r.data.length ≤ 1000) :
    (∀ q ∈ z.qs, q.name.length < 4294967281) ∧ (∀ r ∈ z.all, r.Fit) ∧ z.qs.length ≤ 64 ∧ z.an.length + z.au.length + z.ex.length ≤ 64 ∧ Byts z.wire ∧ z.norm.Like z ∧
    ((4000 < z.wire.length ∧ writeM z = ([], .code 4)) ∨ (z.wire.length ≤ 4000 ∧ writeM z = (z.wire, .none) ∧ parseM z.wire = (z.norm, .none))) := by
  obtain ⟨h1, h2, h3⟩ := parse_read bs hx z h
  have hr : ∀ r ∈ z.all, r.right = true := fun r hr => (h3 r hr).right (hb r hr)
  obtain ⟨k0, k1, k2, k3, k4⟩ := headOk_mk h1
  have hal : z.all.length = z.an.length + z.au.length + z.ex.length := by unfold Msg.all; rw [List.length_append, List.length_append]
  refine ⟨fun q hq => ?_, fun r hm => ?_, by omega, by omega, byts_msg z h1 h2 fun r hm => ⟨hr r hm, (h3 r hm).ok, (h3 r hm).ttl.1, (h3 r hm).ttl.2⟩, norm_like z hr, ?_⟩
  · have := right_len _ (Qu.right_mk (h2 q hq)).1
    omega
  · have a1 := right_len _ (Qu.right_mk (h3 r hm).q).1
    have a2 := right_len _ (h3 r hm).t
    have a3 := hb r hm
    dsimp only at a1
    exact ⟨by omega, by omega, by omega, (h3 r hm).ttl⟩
  · have e2 : z.qs.all Qu.right = true := List.all_eq_true.2 h2
    have e3 : z.all.all Rec.right = true := List.all_eq_true.2 hr
    by_cases hl : 4000 < z.wire.length
    · refine .inl ⟨hl, ?_⟩
      unfold writeM
      rw [h1, e2, e3, if_neg (by simp), if_neg (by simp), if_neg (by simp), if_pos hl]
    · refine .inr ⟨by omega, ?_, ?_⟩
      · unfold writeM
        rw [h1, e2, e3, if_neg (by simp), if_neg (by simp), if_neg (by simp), if_neg hl]
      · have hp := parse_wire z [] h1 h2 hr (by rw [List.append_nil]; omega)
        rw [List.append_nil, if_pos rfl] at hp
        exact hp
theorem dnsmsgBack_walk (w : World) (m : Msg) (A5 A6 A7 A8 : Option Addr) (c5 c6 c7 c8 : Nat) (hM : MsgC w m A5 A6 A7 A8) (hcap : MsgCap m c5 c6 c7 c8) (hw : m.fit)
    (A2 : Option Addr) (n2 c2 : Nat) (bs : List Int) (hC2 : (Kd.int .u8).C w A2 n2 bs) (hc2 : n2 ≤ c2) (hm2 : c2 ≤ 9223372036854775807) (hx2 : Byts bs) (hE : Env w) :
    Calls Tryz.prog 5 #[.agg (msgA m (.slice A5 m.qs.length c5) (.slice A6 m.an.length c6) (.slice A7 m.au.length c7) (.slice A8 m.ex.length c8)), .slice A2 n2 c2] w fun e w' => e = .returned (.bool true) ∧ Below w.heap.size w w' := by
  obtain rfl := (C_len hC2).1
  have hg := playMsg_good m (fun r hr => hw.rs r hr)
  have HP := Kp.mk (fun (W : World) (h : MsgC W m A5 A6 A7 A8) => playMsg_calls m A5 A6 A7 A8 c5 c6 c7 c8 W h hcap hw)
  obtain ⟨pm, hpm⟩ : ∃ pm, playMsg m = pm := ⟨_, rfl⟩
  rw [hpm] at hg HP
  obtain ⟨id, rp, op, co, fl, qs, an, au, ex⟩ := m
  dsimp only at HP
  show Calls Tryz.prog 5 #[.agg #[.int .i64 id, .bool rp, .int .i64 op, .int .i64 co, .int .i64 fl, .slice A5 qs.length c5, .slice A6 an.length c6, .slice A7 au.length c7, .slice A8 ex.length c8], .slice A2 bs.length c2] w fun e w' => e = .returned (.bool true) ∧ Below w.heap.size w w'
  have hwl := hg.wire
  have hwy := hg.byts
  have HS0 := Kp.mk (St.start hE)
  have HSB := Kp.mk ((St.start hE).alloc (.cells #[.int .i64 id, .bool rp, .int .i64 op, .int .i64 co, .int .i64 fl, .slice A5 qs.length c5, .slice A6 an.length c6, .slice A7 au.length c7, .slice A8 ex.length c8] 59))
  have Hg0 := Kp.mk (heap_new w (.cells #[.int .i64 id, .bool rp, .int .i64 op, .int .i64 co, .int .i64 fl, .slice A5 qs.length c5, .slice A6 an.length c6, .slice A7 au.length c7, .slice A8 ex.length c8] 59))
  have HM0 := Kp.mk (hM.below HSB.out.below)
  have HXW := Kp.mk hC2
  by_cases g1 : (3000 : Int) < (bs.length : Int)
  · clear hE hM hw hC2 hx2 hg hwl hwy
    have bg : decide ((3000 : Int) < (bs.length : Int)) = true := by simpa using g1
    clear g1
    go_enter Tryz.func5, Tryz.ntmps5
    go_wp2_with (fail)
    refine b_ (awake14_calls _ HSB.out.env) HSB ?_
    intro w1 HB1 HS1
    go_wp2
    go_ret
    exact ⟨rfl, HS1.out.below⟩
  have bg : decide ((3000 : Int) < (bs.length : Int)) = false := by simpa using g1
  have hb3000 : bs.length ≤ 3000 := by omega
  have hp1 := parse_wire pm [] hg.head hg.qs hg.rs (by rw [List.append_nil]; omega)
  rw [List.append_nil, if_pos rfl] at hp1
  have HLK := Kp.mk (norm_like pm hg.rs)
  have HWR := Kp.mk (fun (W : World) A5 A6 A7 A8 c5 c6 c7 c8 (hE : Env W) (h : MsgC W pm A5 A6 A7 A8) (hc : MsgCap pm c5 c6 c7 c8) => hg.write_calls hE h hc)
  obtain ⟨wr, hwre⟩ : ∃ wr, pm.wire = wr := ⟨_, rfl⟩
  rw [hwre] at hwl hwy hp1 HWR
  obtain ⟨pz, hpz⟩ : ∃ pz, pm.norm = pz := ⟨_, rfl⟩
  rw [hpz] at hp1 HLK
  obtain ⟨z, er, hpb⟩ : ∃ z er, parseM bs = (z, er) := ⟨_, _, rfl⟩
  have HBW : Kp (er = .none → (∀ r ∈ z.all, r.data.length ≤ 1000) → (∀ q ∈ z.qs, q.name.length < 4294967281) ∧ (∀ r ∈ z.all, r.Fit) ∧ z.qs.length ≤ 64 ∧ z.an.length + z.au.length + z.ex.length ≤ 64 ∧ Byts z.wire ∧ z.norm.Like z ∧
    ((4000 < z.wire.length ∧ writeM z = ([], .code 4)) ∨ (z.wire.length ≤ 4000 ∧ writeM z = (z.wire, .none) ∧ parseM z.wire = (z.norm, .none)))) := ⟨fun e hb => by
    subst e
    exact back_write bs hx2 z hpb hb⟩
  have HP1 := Kp.mk hp1
  have HPB := Kp.mk hpb
  have HYW := Kp.mk hwy
  have HX8 := Kp.mk hx2
  clear hE hM hw hC2 hx2 hg hpm hp1 hwy hpb hwre hpz g1
  obtain ⟨pi, pr, po, pc, pf, pq, pa, pu, pe⟩ := pm
  obtain ⟨zi, zr, zo, zc, zf, zq, za, zu, ze⟩ := z
  go_enter Tryz.func5, Tryz.ntmps5
  go_wp2_with (with_reducible refine ld_blk rfl 59 (.tmp 2) rfl w.heap.size rfl Hg0 Tryz.underlying59 rfl (by kernel_rfl) ?_)
  refine (HP.out _ HM0.out).mono ?_
  rintro e0 w1 ⟨B5, B6, B7, B8, d5, d6, d7, d8, rfl, hR1, hB1⟩
  have Hg1 := Kp.mk ((hB1.block _ (heap_lt Hg0.out)).trans Hg0.out)
  have HS1 := Kp.mk (HSB.out.step hB1)
  have HL1 := Kp.mk HS1.out.below
  have HR1 := Kp.mk hR1
  clear hR1 hB1
  go_wp2_with (with_reducible refine st_blk (w0 := w) (base := w.heap.size) rfl 59 (.tmp 2) (.tmp 23) rfl rfl w.heap.size _ rfl rfl Hg1 (by kernel_rfl) (by kernel_rfl) (by kernel_rfl) HL1 (Nat.le_refl _) ?_)
  intro w2 Hg2 HO2 HB2 hs2
  have HR2 := Kp.mk (HR1.out.stored (by simp) HO2.out)
  have HM2 := Kp.mk HR2.out.C
  have HC2 := Kp.mk HR2.out.cap
  have HS2 : Kp (St w w2) := ⟨⟨HB2.out, HS0.out.env.below HB2.out⟩⟩
  clear hs2 HO2 HL1 HR1 HR2 Hg1
  go_wp2_with (with_reducible refine ld_blk rfl 59 (.tmp 2) rfl w.heap.size rfl Hg2 Tryz.underlying59 rfl (by kernel_rfl) ?_)
  refine g2sn_ (HWR.out _ B5 B6 B7 B8 d5 d6 d7 d8 HS2.out.env HM2.out HC2.out) HS2 ?_
  intro A9 c9 w3 hc9 hcm9 HC9 HM9 HB3 HS3
  have Hg3 := Kp.mk ((HB3.out.block _ (heap_lt Hg2.out)).trans Hg2.out)
  have HM3 := Kp.mk (HM2.out.below HB3.out)
  clear HM9 HWR HC2 Hg2 HM2
  go_wp2_with (fail)
  refine (parse_calls A9 c9 wr _ pz .none HC9.out HYW.out hc9 hcm9 HS3.out.env HP1.out).mono ?_
  rintro e4 w4 ⟨v5, v6, v7, v8, v, rfl, hR4, hM4, hB4⟩
  obtain rfl := er_open_none (erK.K_of_M hM4)
  have HS4 := Kp.mk (HS3.out.step hB4)
  have Hg4 := Kp.mk ((hB4.block _ (heap_lt Hg3.out)).trans Hg3.out)
  have HM4 := Kp.mk (HM3.out.below hB4)
  obtain ⟨T5, k5, rfl⟩ := Kd.R_slice hR4.qs
  obtain ⟨T6, k6, rfl⟩ := Kd.R_slice hR4.an
  obtain ⟨T7, k7, rfl⟩ := Kd.R_slice hR4.au
  obtain ⟨T8, k8, rfl⟩ := Kd.R_slice hR4.ex
  have HN4 := Kp.mk hR4.C
  obtain ⟨yi, yr, yo, yc, yf, yq, ya, yu, ye⟩ := pz
  have HZ4 := Kp.mk (HS4.out.below.alloc HS4.out.size (.cells #[.int .i64 0, .bool false, .int .i64 0, .int .i64 0, .int .i64 0, .slice none 0 0, .slice none 0 0, .slice none 0 0, .slice none 0 0] 59))
  clear hR4 hM4 hB4 HC9 HM3 Hg3 HP1 HYW
  go_wp2_with (with_reducible refine st_blk (w0 := w) (base := w.heap.size) rfl 59 (.tmp 7) (.tmp 32) rfl rfl w4.heap.size _ rfl rfl ⟨heap_new _ _⟩ (by kernel_rfl) (by kernel_rfl) (by kernel_rfl) HZ4 HS4.out.size ?_)
  intro w5 Hy5 HO5 HB5 hs5
  have hB45 := stored_new HS4.out.below HB5.out hs5 HO5.out
  have HS5 := Kp.mk (HS4.out.step hB45)
  have Hg5 := Kp.mk ((hB45.block _ (heap_lt Hg4.out)).trans Hg4.out)
  have HM5 := Kp.mk (HM4.out.below hB45)
  have HN5 := Kp.mk (HN4.out.below hB45)
  have HX5 := Kp.mk (Kd.C_below HXW.out HS5.out.below)
  clear hs5 hB45 HO5 HB5 HZ4 Hg4 HM4 HN4
  go_wp2_with (fail)
  refine (parse_calls A2 c2 bs _ ⟨zi, zr, zo, zc, zf, zq, za, zu, ze⟩ er HX5.out HX8.out hc2 hm2 HS5.out.env HPB.out).mono ?_
  rintro e6 w6 ⟨u5, u6, u7, u8, u, rfl, hR6, hM6, hB6⟩
  have HS6 := Kp.mk (HS5.out.step hB6)
  have Hg6 := Kp.mk ((hB6.block _ (heap_lt Hg5.out)).trans Hg5.out)
  have Hy6 := Kp.mk ((hB6.block _ (heap_lt Hy5.out)).trans Hy5.out)
  have HM6 := Kp.mk (HM5.out.below hB6)
  have HN6 := Kp.mk (HN5.out.below hB6)
  have HEr6 := Kp.mk (erK.K_of_M hM6)
  obtain ⟨U5, q5, rfl⟩ := Kd.R_slice hR6.qs
  obtain ⟨U6, q6, rfl⟩ := Kd.R_slice hR6.an
  obtain ⟨U7, q7, rfl⟩ := Kd.R_slice hR6.au
  obtain ⟨U8, q8, rfl⟩ := Kd.R_slice hR6.ex
  have HQ6 := Kp.mk hR6.C
  have HK6 := Kp.mk hR6.cap
  have HZ6 := Kp.mk (HS6.out.below.alloc HS6.out.size (.cells #[.int .i64 0, .bool false, .int .i64 0, .int .i64 0, .int .i64 0, .slice none 0 0, .slice none 0 0, .slice none 0 0, .slice none 0 0] 59))
  clear hR6 hM6 hB6 HX5 HX8 HPB Hg5 Hy5 HM5 HN5
  go_wp2_with (with_reducible refine st_blk (w0 := w) (base := w.heap.size) rfl 59 (.tmp 9) (.tmp 37) rfl rfl w6.heap.size _ rfl rfl ⟨heap_new _ _⟩ (by kernel_rfl) (by kernel_rfl) (by kernel_rfl) HZ6 HS6.out.size ?_)
  intro w7 Hz7 HO7 HB7 hs7
  have hB67 := stored_new HS6.out.below HB7.out hs7 HO7.out
  have HS7 := Kp.mk (HS6.out.step hB67)
  have Hg7 := Kp.mk ((hB67.block _ (heap_lt Hg6.out)).trans Hg6.out)
  have Hy7 := Kp.mk ((hB67.block _ (heap_lt Hy6.out)).trans Hy6.out)
  have HM7 := Kp.mk (HM6.out.below hB67)
  have HN7 := Kp.mk (HN6.out.below hB67)
  have HQ7 := Kp.mk (HQ6.out.below hB67)
  have HEr7 := Kp.mk (erK.K_below hB67 HEr6.out)
  clear hs7 hB67 HO7 HB7 HZ6 Hg6 Hy6 HM6 HN6 HQ6 HEr6
  go_wp2_with (fail)
  refine b_ (awake14_calls _ HS7.out.env) HS7 ?_
  intro w8 HB8 HS8
  have Hg8 := Kp.mk ((HB8.out.block _ (heap_lt Hg7.out)).trans Hg7.out)
  have Hy8 := Kp.mk ((HB8.out.block _ (heap_lt Hy7.out)).trans Hy7.out)
  have Hz8 := Kp.mk ((HB8.out.block _ (heap_lt Hz7.out)).trans Hz7.out)
  have HM8 := Kp.mk (HM7.out.below HB8.out)
  have HN8 := Kp.mk (HN7.out.below HB8.out)
  have HQ8 := Kp.mk (HQ7.out.below HB8.out)
  have HEr8 := Kp.mk (erK.K_below HB8.out HEr7.out)
  clear Hg7 Hy7 Hz7 HM7 HN7 HQ7 HEr7
  go_wp2_with (first | (with_reducible refine ld_blkG (by kernel_rfl) 59 (.tmp 7) rfl w4.heap.size rfl Hy8 Tryz.underlying59 rfl (by kernel_rfl) ?_) | (with_reducible refine ld_blkG (by kernel_rfl) 59 (.tmp 2) rfl w.heap.size rfl Hg8 Tryz.underlying59 rfl (by kernel_rfl) ?_))
  refine b_ (sameMsg_calls ⟨yi, yr, yo, yc, yf, yq, ya, yu, ye⟩ ⟨pi, pr, po, pc, pf, pq, pa, pu, pe⟩ T5 T6 T7 T8 B5 B6 B7 B8 k5 k6 k7 k8 d5 d6 d7 d8 _ HN8.out HM8.out HLK.out) HS8 ?_
  intro wz HB9 HSz
  have HGz := Kp.mk ((HB9.out.block _ (heap_lt Hz8.out)).trans Hz8.out)
  have HQz := Kp.mk (HQ8.out.below HB9.out)
  have HEz := Kp.mk (erK.K_below HB9.out HEr8.out)
  clear Hg8 Hy8 Hz8 HM8 HN8 HQ8 HEr8 HLK HB9
  by_cases gE : er = .none
  case neg =>
    obtain ⟨T, u', rfl⟩ := er_some HEz.out gE
    go_wp2
    go_ret
    exact ⟨rfl, HSz.out.below⟩
  subst gE
  obtain rfl := er_open_none HEz.out
  have HC6 := Kp.mk HQz.out.an
  have HC7 := Kp.mk HQz.out.au
  have HC8 := Kp.mk HQz.out.ex
  have hl6 := (C_len HC6.out).2
  have hl7 := (C_len HC7.out).2
  have hl8 := (C_len HC8.out).2
  clear HEz
  go_wp2_with (fail)
  go_loopw [11] (fun i wr => ∃ k : Nat, k ≤ za.length ∧ i = .int .i64 k ∧ Kp (Below wz.heap.size wz wr) ∧ Kp (∀ j, j < k → (za.getD j Rec.zero).data.length ≤ 1000)) (fun i _ => za.length - (intOf i).toNat)
  case atStart => exact ⟨0, Nat.zero_le _, rfl, ⟨Below.refl _ _⟩, ⟨fun j hj => by omega⟩⟩
  case round =>
    obtain ⟨k, hk, rfl, HW, HBG⟩ := hrel
    have HGr := Kp.mk ((HW.out.block _ (heap_lt HGz.out)).trans HGz.out)
    have d6 := blk_cell HGr.out 6
    clear HGr
    by_cases hlt : k < za.length
    · obtain ⟨g, o, Ar, cr, rfl, r1, r2, r3⟩ := at_rec (Kd.C_below HC6.out HW.out) k hlt
      obtain ⟨r, hr⟩ : ∃ r, za.getD k Rec.zero = r := ⟨_, rfl⟩
      rw [hr] at r1 r2
      have r22 : wr.cell? ⟨g, o + k * 23 + 22, none⟩ = some (.slice Ar r.data.length cr) := r1 22 _ rfl
      have HRR := Kp.mk hr
      have i0 : (0 : Int) ≤ (k : Int) := by omega
      have i1 : (k : Int) < (za.length : Int) := by omega
      have HME : Kp (k + 1 ≤ za.length ∧ za.length - (k + 1) < za.length - k) := ⟨by omega⟩
      have HST := Kp.mk (below_step HSz.out.below HW.out)
      clear r1 r3 hr
      by_cases hb : (1000 : Int) < (r.data.length : Int)
      · have bb : decide ((1000 : Int) < (r.data.length : Int)) = true := by simpa using hb
        clear hb
        go_wp2
        go_ret
        exact ⟨rfl, HST.out⟩
      · have bb : decide ((1000 : Int) < (r.data.length : Int)) = false := by simpa using hb
        have hb2 : r.data.length ≤ 1000 := by omega
        have HB2 : Kp (∀ j, j < k + 1 → (za.getD j Rec.zero).data.length ≤ 1000) := ⟨fun j hj => by
          by_cases e : j < k
          · exact HBG.out j e
          · have : j = k := by omega
            subst this
            rw [HRR.out]
            exact hb2⟩
        clear hb hb2
        go_wp2
        refine ⟨⟨k + 1, HME.out.1, by go_num, HW, HB2⟩, ?_⟩
        have hi1 : (intOf (Value.int .i64 ((k : Int) + 1))).toNat = k + 1 := by simp [intOf] <;> omega
        have hi2 : (intOf (Value.int .i64 (k : Int))).toNat = k := by simp [intOf]
        rw [hi1, hi2]
        exact HME.out.2
    · obtain rfl : k = za.length := by omega
      have HW6 := HW
      have HBG6 := HBG
      clear HW HBG
      clear hk hlt
      go_wp2_with (fail)
      clear d6
      go_loopw [12] (fun i wr => ∃ k : Nat, k ≤ zu.length ∧ i = .int .i64 k ∧ Kp (Below wz.heap.size wz wr) ∧ Kp (∀ j, j < k → (zu.getD j Rec.zero).data.length ≤ 1000)) (fun i _ => zu.length - (intOf i).toNat)
      case atStart => exact ⟨0, Nat.zero_le _, rfl, HW6, ⟨fun j hj => by omega⟩⟩
      case round =>
        obtain ⟨k, hk, rfl, HW, HBG⟩ := hrel
        have HGr := Kp.mk ((HW.out.block _ (heap_lt HGz.out)).trans HGz.out)
        have d7 := blk_cell HGr.out 7
        clear HGr
        by_cases hlt : k < zu.length
        · obtain ⟨g, o, Ar, cr, rfl, r1, r2, r3⟩ := at_rec (Kd.C_below HC7.out HW.out) k hlt
          obtain ⟨r, hr⟩ : ∃ r, zu.getD k Rec.zero = r := ⟨_, rfl⟩
          rw [hr] at r1 r2
          have r22 : wr.cell? ⟨g, o + k * 23 + 22, none⟩ = some (.slice Ar r.data.length cr) := r1 22 _ rfl
          have HRR := Kp.mk hr
          have i0 : (0 : Int) ≤ (k : Int) := by omega
          have i1 : (k : Int) < (zu.length : Int) := by omega
          have HME : Kp (k + 1 ≤ zu.length ∧ zu.length - (k + 1) < zu.length - k) := ⟨by omega⟩
          have HST := Kp.mk (below_step HSz.out.below HW.out)
          clear r1 r3 hr
          by_cases hb : (1000 : Int) < (r.data.length : Int)
          · have bb : decide ((1000 : Int) < (r.data.length : Int)) = true := by simpa using hb
            clear hb
            go_wp2
            go_ret
            exact ⟨rfl, HST.out⟩
          · have bb : decide ((1000 : Int) < (r.data.length : Int)) = false := by simpa using hb
            have hb2 : r.data.length ≤ 1000 := by omega
            have HB2 : Kp (∀ j, j < k + 1 → (zu.getD j Rec.zero).data.length ≤ 1000) := ⟨fun j hj => by
              by_cases e : j < k
              · exact HBG.out j e
              · have : j = k := by omega
                subst this
                rw [HRR.out]
                exact hb2⟩
            clear hb hb2
            go_wp2
            refine ⟨⟨k + 1, HME.out.1, by go_num, HW, HB2⟩, ?_⟩
            have hi1 : (intOf (Value.int .i64 ((k : Int) + 1))).toNat = k + 1 := by simp [intOf] <;> omega
            have hi2 : (intOf (Value.int .i64 (k : Int))).toNat = k := by simp [intOf]
            rw [hi1, hi2]
            exact HME.out.2
        · obtain rfl : k = zu.length := by omega
          have HW7 := HW
          have HBG7 := HBG
          clear HW HBG
          clear hk hlt
          go_wp2_with (fail)
          clear d7
          go_loopw [13] (fun i wr => ∃ k : Nat, k ≤ ze.length ∧ i = .int .i64 k ∧ Kp (Below wz.heap.size wz wr) ∧ Kp (∀ j, j < k → (ze.getD j Rec.zero).data.length ≤ 1000)) (fun i _ => ze.length - (intOf i).toNat)
          case atStart => exact ⟨0, Nat.zero_le _, rfl, HW7, ⟨fun j hj => by omega⟩⟩
          case round =>
            obtain ⟨k, hk, rfl, HW, HBG⟩ := hrel
            have HGr := Kp.mk ((HW.out.block _ (heap_lt HGz.out)).trans HGz.out)
            have d8 := blk_cell HGr.out 8
            clear HGr
            by_cases hlt : k < ze.length
            · obtain ⟨g, o, Ar, cr, rfl, r1, r2, r3⟩ := at_rec (Kd.C_below HC8.out HW.out) k hlt
              obtain ⟨r, hr⟩ : ∃ r, ze.getD k Rec.zero = r := ⟨_, rfl⟩
              rw [hr] at r1 r2
              have r22 : wr.cell? ⟨g, o + k * 23 + 22, none⟩ = some (.slice Ar r.data.length cr) := r1 22 _ rfl
              have HRR := Kp.mk hr
              have i0 : (0 : Int) ≤ (k : Int) := by omega
              have i1 : (k : Int) < (ze.length : Int) := by omega
              have HME : Kp (k + 1 ≤ ze.length ∧ ze.length - (k + 1) < ze.length - k) := ⟨by omega⟩
              have HST := Kp.mk (below_step HSz.out.below HW.out)
              clear r1 r3 hr
              by_cases hb : (1000 : Int) < (r.data.length : Int)
              · have bb : decide ((1000 : Int) < (r.data.length : Int)) = true := by simpa using hb
                clear hb
                go_wp2
                go_ret
                exact ⟨rfl, HST.out⟩
              · have bb : decide ((1000 : Int) < (r.data.length : Int)) = false := by simpa using hb
                have hb2 : r.data.length ≤ 1000 := by omega
                have HB2 : Kp (∀ j, j < k + 1 → (ze.getD j Rec.zero).data.length ≤ 1000) := ⟨fun j hj => by
                  by_cases e : j < k
                  · exact HBG.out j e
                  · have : j = k := by omega
                    subst this
                    rw [HRR.out]
                    exact hb2⟩
                clear hb hb2
                go_wp2
                refine ⟨⟨k + 1, HME.out.1, by go_num, HW, HB2⟩, ?_⟩
                have hi1 : (intOf (Value.int .i64 ((k : Int) + 1))).toNat = k + 1 := by simp [intOf] <;> omega
                have hi2 : (intOf (Value.int .i64 (k : Int))).toNat = k := by simp [intOf]
                rw [hi1, hi2]
                exact HME.out.2
            · obtain rfl : k = ze.length := by omega
              have HF := Kp.mk (HBW.out (by first | trivial | rfl) (all_big HBG6.out HBG7.out HBG.out))
              have HQr := Kp.mk (HQz.out.below HW.out)
              have HSr := Kp.mk (HSz.out.step HW.out)
              have HGr := Kp.mk ((HW.out.block _ (heap_lt HGz.out)).trans HGz.out)
              clear hk hlt
              have hWRT := fun out er2 (hw : writeM ⟨zi, zr, zo, zc, zf, zq, za, zu, ze⟩ = (out, er2)) => write_calls ⟨zi, zr, zo, zc, zf, zq, za, zu, ze⟩ U5 U6 U7 U8 q5 q6 q7 q8 wr out er2 HSr.out.env HQr.out.qs HK6.out.c5 HQr.out.an HK6.out.c6 HQr.out.au HK6.out.c7 HQr.out.ex HK6.out.c8 HF.out.1 HF.out.2.1 (by have := HF.out.2.2.2.1; first | omega | (dsimp only; omega) | (dsimp only at this ⊢; omega)) (by have := HF.out.2.2.1; first | omega | (dsimp only; omega) | (dsimp only at this ⊢; omega)) hw
              have HWRT := Kp.mk hWRT
              clear hWRT
              go_wp2_with (with_reducible refine ld_blk rfl 59 (.tmp 9) rfl w6.heap.size rfl HGr Tryz.underlying59 rfl (by kernel_rfl) ?_)
              rcases HF.out.2.2.2.2.2.2 with ⟨hl, hwm⟩ | ⟨hl, hwm, hpm⟩
              · refine g2_ (HWRT.out _ _ hwm) HSr ?_
                intro v9 v9e wt HM9 HE9 HB9 HS9
                obtain ⟨A9', c9', rfl, -, -⟩ := slice_open (bytesK.K_of_M HM9.out)
                have HE9' := Kp.mk (erK.K_of_M HE9.out)
                obtain rfl := er_open_code HE9'.out
                clear hl hwm HM9 HE9
                go_wp2_with (fail)
                refine b_ (scode_calls _ _ _ HE9'.out HS9.out.env) HS9 ?_
                intro wu HBu HSu
                go_wp2
                go_ret
                exact ⟨rfl, HSu.out.below⟩
              · have HPM := Kp.mk hpm
                have HFB := Kp.mk HF.out.2.2.2.2.1
                have HLK := Kp.mk HF.out.2.2.2.2.2.1
                refine g2sn_ (HWRT.out _ _ hwm) HSr ?_
                intro A9' c9' wt hct hcmt HCt HMt HBt HSt
                have HGt := Kp.mk ((HBt.out.block _ (heap_lt HGr.out)).trans HGr.out)
                have HQt := Kp.mk (HQr.out.below HBt.out)
                obtain ⟨xw, hxw⟩ : ∃ xw, Msg.wire ⟨zi, zr, zo, zc, zf, zq, za, zu, ze⟩ = xw := ⟨_, rfl⟩
                obtain ⟨zn, hzn⟩ : ∃ zn, Msg.norm ⟨zi, zr, zo, zc, zf, zq, za, zu, ze⟩ = zn := ⟨_, rfl⟩
                rw [hxw, hzn] at HPM
                rw [hxw] at HFB HCt hct ⊢
                rw [hzn] at HLK
                clear hl hwm hpm HMt HF HWRT hxw hzn HBW
                go_wp2_with (fail)
                refine (parse_calls A9' c9' xw _ zn .none HCt.out HFB.out hct hcmt HSt.out.env HPM.out).mono ?_
                rintro eu wu ⟨v5, v6, v7, v8, v, rfl, hRu, hMu, hBu⟩
                obtain rfl := er_open_none (erK.K_of_M hMu)
                have HSu := Kp.mk (HSt.out.step hBu)
                have HGu := Kp.mk ((hBu.block _ (heap_lt HGt.out)).trans HGt.out)
                have HQu := Kp.mk (HQt.out.below hBu)
                obtain ⟨X5, x5, rfl⟩ := Kd.R_slice hRu.qs
                obtain ⟨X6, x6, rfl⟩ := Kd.R_slice hRu.an
                obtain ⟨X7, x7, rfl⟩ := Kd.R_slice hRu.au
                obtain ⟨X8, x8, rfl⟩ := Kd.R_slice hRu.ex
                have HNu := Kp.mk hRu.C
                obtain ⟨ni, nr, no, nc, nf, nq, na, nu, ne⟩ := zn
                have HZu := Kp.mk (HSu.out.below.alloc HSu.out.size (.cells #[.int .i64 0, .bool false, .int .i64 0, .int .i64 0, .int .i64 0, .slice none 0 0, .slice none 0 0, .slice none 0 0, .slice none 0 0] 59))
                clear hRu hMu hBu HCt HPM HFB HGt HQt
                go_wp2_with (with_reducible refine st_blk (w0 := w) (base := w.heap.size) rfl 59 (.tmp 16) (.tmp 115) rfl rfl wu.heap.size _ rfl rfl ⟨heap_new _ _⟩ (by kernel_rfl) (by kernel_rfl) (by kernel_rfl) HZu HSu.out.size ?_)
                intro wv Hv HOv HBv hsv
                have hBuv := stored_new HSu.out.below HBv.out hsv HOv.out
                have HSv := Kp.mk (HSu.out.step hBuv)
                have HGv := Kp.mk ((hBuv.block _ (heap_lt HGu.out)).trans HGu.out)
                have HQv := Kp.mk (HQu.out.below hBuv)
                have HNv := Kp.mk (HNu.out.below hBuv)
                clear hsv hBuv HOv HBv HZu HGu HQu HNu
                go_wp2_with (first | (with_reducible refine ld_blkG (by kernel_rfl) 59 (.tmp 16) rfl wu.heap.size rfl Hv Tryz.underlying59 rfl (by kernel_rfl) ?_) | (with_reducible refine ld_blkG (by kernel_rfl) 59 (.tmp 9) rfl w6.heap.size rfl HGv Tryz.underlying59 rfl (by kernel_rfl) ?_))
                refine b_ (sameMsg_calls ⟨ni, nr, no, nc, nf, nq, na, nu, ne⟩ ⟨zi, zr, zo, zc, zf, zq, za, zu, ze⟩ X5 X6 X7 X8 U5 U6 U7 U8 x5 x6 x7 x8 q5 q6 q7 q8 _ HNv.out HQv.out HLK.out) HSv ?_
                intro wx HBx HSx
                go_wp2
                go_ret
                exact ⟨rfl, HSx.out.below⟩
end Go.Proofs.YtlkneoednkhleaaGreatDoor
