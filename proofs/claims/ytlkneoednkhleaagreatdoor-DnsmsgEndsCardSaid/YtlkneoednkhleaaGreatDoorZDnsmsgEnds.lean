/-
  The law DnsmsgEnds: with bytes behind it a message is told as wrong, at their place; cut anywhere it is none; counts that are too great are told: the walk.
-/
import Derived.Test.YtlkneoednkhleaaGreatDoorGv
import Derived.Test.YtlkneoednkhleaaGreatDoorGu
import Derived.Test.YtlkneoednkhleaaGreatDoorGs
import Derived.Test.YtlkneoednkhleaaGreatDoorSame
namespace Go.Proofs.YtlkneoednkhleaaGreatDoor
open Go.RowKit Go.Proofs.YtlkneoednkhleaaGreatDoorW.PrintWords
set_option linter.unusedVariables false
set_option linter.unusedSimpArgs false
set_option maxRecDepth 100000
set_option maxHeartbeats 2000000

theorem dnsmsgEnds_walk (w : World) (m : Msg) (A5 A6 A7 A8 : Option Addr) (c5 c6 c7 c8 : Nat) (hM : MsgC w m A5 A6 A7 A8) (hcap : MsgCap m c5 c6 c7 c8) (hw : m.fit)
    (A2 : Option Addr) (n2 c2 : Nat) (xs : List Int) (hC2 : (Kd.int .u8).C w A2 n2 xs) (hc2 : n2 ≤ c2) (hm2 : c2 ≤ 9223372036854775807) (hx2 : Byts xs) (a : Int) (ha1 : -9223372036854775808 ≤ a) (ha2 : a ≤ 9223372036854775807) (b : Int) (hb1 : -9223372036854775808 ≤ b) (hb2 : b ≤ 9223372036854775807) (hE : Env w) :
    Calls Tryz.prog 6 #[.agg (msgA m (.slice A5 m.qs.length c5) (.slice A6 m.an.length c6) (.slice A7 m.au.length c7) (.slice A8 m.ex.length c8)), .slice A2 n2 c2, .int .i64 a, .int .i64 b] w fun e w' => e = .returned (.bool true) ∧ Below w.heap.size w w' := by
  obtain rfl := (C_len hC2).1
  have hg := playMsg_good m (fun r hr => hw.rs r hr)
  have HP := Kp.mk (fun (W : World) (h : MsgC W m A5 A6 A7 A8) => playMsg_calls m A5 A6 A7 A8 c5 c6 c7 c8 W h hcap hw)
  obtain ⟨pm, hpm⟩ : ∃ pm, playMsg m = pm := ⟨_, rfl⟩
  rw [hpm] at hg HP
  have hwl := hg.wire
  have hw12 : 12 ≤ pm.wire.length := by rw [wire_len_msg]; omega
  have hwy := hg.byts
  obtain ⟨N, hN, hNe⟩ := umod a pm.wire.length (by omega) (by omega)
  obtain ⟨K, hK, hKe⟩ := umod b 1000 (by decide) (by decide)
  obtain ⟨id, rp, op, co, fl, qs, an, au, ex⟩ := m
  dsimp only at HP
  show Calls Tryz.prog 6 #[.agg #[.int .i64 id, .bool rp, .int .i64 op, .int .i64 co, .int .i64 fl, .slice A5 qs.length c5, .slice A6 an.length c6, .slice A7 au.length c7, .slice A8 ex.length c8], .slice A2 xs.length c2, .int .i64 a, .int .i64 b] w fun e w' => e = .returned (.bool true) ∧ Below w.heap.size w w'
  have HS0 := Kp.mk (St.start hE)
  have HSB := Kp.mk ((St.start hE).alloc (.cells #[.int .i64 id, .bool rp, .int .i64 op, .int .i64 co, .int .i64 fl, .slice A5 qs.length c5, .slice A6 an.length c6, .slice A7 au.length c7, .slice A8 ex.length c8] 59))
  have Hg0 := Kp.mk (heap_new w (.cells #[.int .i64 id, .bool rp, .int .i64 op, .int .i64 co, .int .i64 fl, .slice A5 qs.length c5, .slice A6 an.length c6, .slice A7 au.length c7, .slice A8 ex.length c8] 59))
  have HM0 := Kp.mk (hM.below HSB.out.below)
  have HX := Kp.mk (Kd.C_below hC2 HSB.out.below)
  have HXW := Kp.mk hC2
  by_cases g1 : (100 : Int) < (xs.length : Int)
  · clear hE hM hw hC2 hx2 hg hwl hw12 hwy hNe hKe
    have bg : decide ((100 : Int) < (xs.length : Int)) = true := by simpa using g1
    clear g1
    go_enter Tryz.func6, Tryz.ntmps6
    go_wp2_with (fail)
    refine b_ (awake14_calls _ HSB.out.env) HSB ?_
    intro w1 HB1 HS1
    go_wp2
    go_ret
    exact ⟨rfl, HS1.out.below⟩
  have bg : decide ((100 : Int) < (xs.length : Int)) = false := by simpa using g1
  have hx100 : xs.length ≤ 100 := by omega
  have hp1 : parseM (pm.wire ++ xs) = if xs = [] then (pm.norm, .none) else (Msg.zero, .fault pm.wire.length 7) := parse_wire pm xs hg.head hg.qs hg.rs (by rw [List.length_append]; omega)
  obtain ⟨e2, hp2, hne2⟩ := parse_cut pm hg.head hg.qs hg.rs (by omega) N (by omega)
  have hp3 := parse_many pm (by omega) (65 + K) (by omega) (by omega)
  have HWR := Kp.mk (fun (W : World) A5 A6 A7 A8 c5 c6 c7 c8 (hE : Env W) (h : MsgC W pm A5 A6 A7 A8) (hc : MsgCap pm c5 c6 c7 c8) => hg.write_calls hE h hc)
  obtain ⟨wr, hwre⟩ : ∃ wr, pm.wire = wr := ⟨_, rfl⟩
  rw [hwre] at hwl hw12 hwy hN hNe hp1 hp2 hp3 HWR
  obtain ⟨m1, e1, hpe1⟩ : ∃ m1 e1, parseM (wr ++ xs) = (m1, e1) := ⟨_, _, rfl⟩
  have he1 : (xs = [] ∧ e1 = .none) ∨ (xs ≠ [] ∧ e1 = .fault wr.length 7) := by
    rw [hp1] at hpe1
    split at hpe1
    · rename_i h; injection hpe1 with h1 h2; exact .inl ⟨h, h2.symm⟩
    · rename_i h; injection hpe1 with h1 h2; exact .inr ⟨h, h2.symm⟩
  have hyx : Byts (wr ++ xs) := byts_app hwy hx2
  have hs8 : ∀ v : Int, 0 ≤ v → v ≤ 65535 → Byts ((wr.set 8 (v / 256)).set 9 (v % 256)) := by
    intro v h0 h1 x hx
    rcases List.mem_or_eq_of_mem_set hx with hx | rfl
    · rcases List.mem_or_eq_of_mem_set hx with hx | rfl
      · exact hwy x hx
      · omega
    · omega
  have hyn := hs8 ((65 + K : Nat) : Int) (by omega) (by omega)
  have HP1 := Kp.mk hpe1
  have HP2 := Kp.mk hp2
  have HP3 := Kp.mk hp3
  have HNE := Kp.mk hne2
  have HE1 := Kp.mk he1
  have HYX := Kp.mk hyx
  have HYW := Kp.mk hwy
  have HYN := Kp.mk hyn
  have HN := Kp.mk hNe
  have HK := Kp.mk hKe
  have hlc : wr.length + xs.length ≤ 4000 := by omega
  clear hE hM hw hC2 hx2 hg hpm hp1 hp2 hp3 hne2 he1 hyx hyn hs8 hwy hNe hKe hpe1 hwre g1
  go_enter Tryz.func6, Tryz.ntmps6
  go_wp2_with (with_reducible refine ld_blk rfl 59 (.tmp 4) rfl w.heap.size rfl Hg0 Tryz.underlying59 rfl (by kernel_rfl) ?_)
  refine (HP.out _ HM0.out).mono ?_
  rintro e0 w1 ⟨B5, B6, B7, B8, d5, d6, d7, d8, rfl, hR1, hB1⟩
  have Hg1 := Kp.mk ((hB1.block _ (heap_lt Hg0.out)).trans Hg0.out)
  have HS1 := Kp.mk (HSB.out.step hB1)
  have HL1 := Kp.mk HS1.out.below
  have HR1 := Kp.mk hR1
  clear hR1 hB1
  go_wp2_with (with_reducible refine st_blk (w0 := w) (base := w.heap.size) rfl 59 (.tmp 4) (.tmp 23) rfl rfl w.heap.size _ rfl rfl Hg1 (by kernel_rfl) (by kernel_rfl) (by kernel_rfl) HL1 (Nat.le_refl _) ?_)
  intro w2 Hg2 HO2 HB2 hs2
  have HR2 := Kp.mk (HR1.out.stored (by simp) HO2.out)
  have HM2 := Kp.mk HR2.out.C
  have HC2 := Kp.mk HR2.out.cap
  have HS2 : Kp (St w w2) := ⟨⟨HB2.out, HS0.out.env.below HB2.out⟩⟩
  clear hs2 HO2 HL1 HR1 HR2 Hg1 HX
  go_wp2_with (with_reducible refine ld_blk rfl 59 (.tmp 4) rfl w.heap.size rfl Hg2 Tryz.underlying59 rfl (by kernel_rfl) ?_)
  refine g2sn_ (HWR.out _ B5 B6 B7 B8 d5 d6 d7 d8 HS2.out.env HM2.out HC2.out) HS2 ?_
  intro A9 c9 w3 hc9 hcm9 HC9 HM9 HB3 HS3
  clear HM9 HWR HM2 HC2 Hg2
  go_wp2_with (fail)
  refine b_ (awake14_calls _ HS3.out.env) HS3 ?_
  intro w4 HB4 HS4
  have HC94 := Kp.mk (Kd.C_below HC9.out HB4.out)
  have HX4 := Kp.mk (Kd.C_below HXW.out HS4.out.below)
  clear HC9 HB3 HB4
  go_wp2_with (at_builtin; (with_reducible refine gate_builtin (b := .append) (xs := #[.const (.slice none 0 0), .tmp 36]) rfl ?_); go_must (refine app_bytes (w0 := w4) (base := w4.heap.size) (s := .const (.slice none 0 0)) (x := .tmp 36) (v := .slice none 0 0) rfl rfl [] wr A9 wr.length c9 rfl rfl (Kd.R_nil _ _ _ _ _) HC94.out (Below.refl _ _) (Nat.le_refl _) (by show 0 + wr.length ≤ _; omega) ?_))
  intro v5 w5 HR5 HB5 hs5
  obtain ⟨A10, c10, rfl⟩ := Kd.R_slice HR5.out
  have HX5 := Kp.mk (Kd.C_below HX4.out HB5.out)
  go_wp2_with (at_builtin; (with_reducible refine gate_builtin (b := .append) (xs := #[.tmp 37, .tmp 38]) rfl ?_); go_must (refine app_bytes (w0 := w4) (base := w4.heap.size) (s := .tmp 37) (x := .tmp 38) (v := .slice A10 wr.length c10) rfl rfl wr xs A2 xs.length c2 rfl rfl HR5.out HX5.out HB5.out hs5.out (by omega) ?_))
  intro v6 w6 HR6 HB6 hs6
  obtain ⟨ys, hys⟩ : ∃ ys, wr ++ xs = ys := ⟨_, rfl⟩
  have hyl : ys.length = wr.length + xs.length := by rw [← hys, List.length_append]
  rw [hys] at HR6 HP1 HYX
  obtain ⟨A11, c11, rfl⟩ := Kd.R_slice HR6.out
  have HC6 := Kp.mk (R_C HR6.out).1
  have hc6 := (R_C HR6.out).2
  have hcm6 := R_cap HR6.out
  have HS6 := Kp.mk (HS4.out.step HB6.out)
  have HC96 := Kp.mk (Kd.C_below HC94.out HB6.out)
  have HYL := Kp.mk hyl
  clear hyl hys HR5 HR6 HB5 HB6 HX5 HX4 HC94 hs5 hs6
  go_wp2_with (fail)
  refine (parse_calls A11 c11 ys _ m1 e1 HC6.out HYX.out hc6 hcm6 HS6.out.env HP1.out).mono ?_
  rintro e7 w7 ⟨v5, v6, v7, v8, v, rfl, hR7, hM7, hB7⟩
  have HSa := Kp.mk (HS6.out.step hB7)
  have HCa := Kp.mk (Kd.C_below HC96.out hB7)
  have HMa := Kp.mk (erK.K_of_M hM7)
  obtain ⟨T5, k5, rfl⟩ := Kd.R_slice hR7.qs
  obtain ⟨T6, k6, rfl⟩ := Kd.R_slice hR7.an
  obtain ⟨T7, k7, rfl⟩ := Kd.R_slice hR7.au
  obtain ⟨T8, k8, rfl⟩ := Kd.R_slice hR7.ex
  have HZa := Kp.mk (HSa.out.below.alloc HSa.out.size (.cells #[.int .i64 0, .bool false, .int .i64 0, .int .i64 0, .int .i64 0, .slice none 0 0, .slice none 0 0, .slice none 0 0, .slice none 0 0] 59))
  clear hR7 hM7 hB7 HC6 HC96 HP1 HYX
  go_wp2_with (with_reducible refine st_blk (w0 := w) (base := w.heap.size) rfl 59 (.tmp 11) (.tmp 41) rfl rfl w7.heap.size _ rfl rfl ⟨heap_new _ _⟩ (by kernel_rfl) (by kernel_rfl) (by kernel_rfl) HZa HSa.out.size ?_)
  intro wb Hub HOb HBb hsb
  have hBab := stored_new HSa.out.below HBb.out hsb HOb.out
  have HSb := Kp.mk (HSa.out.step hBab)
  have HCb := Kp.mk (Kd.C_below HCa.out hBab)
  have HMb := Kp.mk (erK.K_below hBab HMa.out)
  clear hsb hBab HOb HBb HZa HCa HMa Hub
  have hk : wrap64 ((IntKind.u64.wrap a).tmod (max 1 (wr.length : Int))) = (N : Int) := by rw [Int.max_eq_right (by omega)]; exact HN.out
  have hk2 : wrap64 ((IntKind.u64.wrap a).tmod (wr.length : Int)) = (N : Int) := HN.out
  have hNc : (N : Int) ≤ (c9 : Int) := by omega
  go_wp2_with (fail)
  have hC12 := Kd.C_take (m := N) HCb.out (by omega)
  have hlt : (wr.take N).length = N := by rw [List.length_take]; omega
  have hrc := parse_calls A9 c9 (wr.take N) wb Msg.zero e2 hC12 (byts_take HYW.out _) (by rw [hlt]; omega) hcm9 HSb.out.env HP2.out
  rw [hlt] at hrc
  refine hrc.mono ?_
  clear hrc hC12
  rintro e8 wc ⟨u5, u6, u7, u8, u, rfl, hR8, hM8, hB8⟩
  have HSc := Kp.mk (HSb.out.step hB8)
  have HCc := Kp.mk (Kd.C_below HCb.out hB8)
  have HMc := Kp.mk (erK.K_below hB8 HMb.out)
  obtain ⟨T, u', rfl⟩ := er_some (erK.K_of_M hM8) HNE.out
  obtain ⟨T5, k5, rfl⟩ := Kd.R_slice hR8.qs
  obtain ⟨T6, k6, rfl⟩ := Kd.R_slice hR8.an
  obtain ⟨T7, k7, rfl⟩ := Kd.R_slice hR8.au
  obtain ⟨T8, k8, rfl⟩ := Kd.R_slice hR8.ex
  have HZc := Kp.mk (HSc.out.below.alloc HSc.out.size (.cells #[.int .i64 0, .bool false, .int .i64 0, .int .i64 0, .int .i64 0, .slice none 0 0, .slice none 0 0, .slice none 0 0, .slice none 0 0] 59))
  clear hR8 hM8 hB8 HCb HMb hk hk2 hNc hlt HP2 HN
  go_wp2_with (with_reducible refine st_blk (w0 := w) (base := w.heap.size) rfl 59 (.tmp 13) (.tmp 55) rfl rfl wc.heap.size _ rfl rfl ⟨heap_new _ _⟩ (by kernel_rfl) (by kernel_rfl) (by kernel_rfl) HZc HSc.out.size ?_)
  intro wd Hud HOd HBd hsd
  have hBcd := stored_new HSc.out.below HBd.out hsd HOd.out
  have HSd := Kp.mk (HSc.out.step hBcd)
  have HCd := Kp.mk (Kd.C_below HCc.out hBcd)
  have HMd := Kp.mk (erK.K_below hBcd HMc.out)
  clear hsd hBcd HOd HBd HZc HCc HMc Hud
  have hq : wrap64 ((IntKind.u64.wrap b).tmod 1000) = (K : Int) := HK.out
  go_wp2_with (at_builtin; (with_reducible refine gate_builtin (b := .append) (xs := #[.const (.slice none 0 0), .tmp 62]) rfl ?_); go_must (refine app_bytes (w0 := wd) (base := wd.heap.size) (s := .const (.slice none 0 0)) (x := .tmp 62) (v := .slice none 0 0) rfl rfl [] wr A9 wr.length c9 rfl rfl (Kd.R_nil _ _ _ _ _) HCd.out (Below.refl _ _) (Nat.le_refl _) (by show 0 + wr.length ≤ _; omega) ?_))
  intro v9 we HRe HBe hse
  obtain ⟨Ae, ce, rfl⟩ := Kd.R_slice HRe.out
  obtain ⟨ge, rfl, hge, -⟩ := R_form HRe.out (by omega)
  have hcme := R_cap HRe.out
  have hce := (R_C HRe.out).2
  have HSe := Kp.mk (HSd.out.step HBe.out)
  have HMe := Kp.mk (erK.K_below HBe.out HMd.out)
  have hc65 : ((65 + K : Nat) : Int) = 65 + (K : Int) := by omega
  rw [hc65] at HP3 HYN
  obtain ⟨n, hn⟩ : ∃ n : Int, 65 + (K : Int) = n := ⟨_, rfl⟩
  rw [hn] at HP3 HYN
  have hn1 : 65 ≤ n := by omega
  have hn2 : n ≤ 1064 := by omega
  have e1 : wrap64 n = n := by unfold wrap64; omega
  have e2 : IntKind.u8.wrap (n / 256) = n / 256 := IntWalk.u8_in _ (by omega)
  have e3 : IntKind.u8.wrap n = n % 256 := by unfold IntKind.wrap IntKind.bits IntKind.signed; simp
  clear hc65
  obtain ⟨hcell8, f8⟩ := Kd.R_celln (0 : Int) HRe.out (8 : Int) (by omega) (by omega)
  have hput8 := Kd.R_putn HRe.out (8 : Int) (n / 256)
  obtain ⟨hcell9, f9⟩ := Kd.R_celln (0 : Int) hput8 (9 : Int) (by omega) (by omega)
  have hput9 := Kd.R_putn hput8 (9 : Int) (n % 256)
  have HB8 := Kp.mk (HBe.out.setCell (p := ⟨ge, 8, none⟩) hge (.int .u8 (n / 256)))
  have HB9 := Kp.mk (HB8.out.setCell (p := ⟨ge, 9, none⟩) hge (.int .u8 (n % 256)))
  obtain ⟨o8, ho8⟩ : ∃ o, we.cell? ⟨ge, 8, none⟩ = some o := ⟨_, hcell8⟩
  obtain ⟨o9, ho9⟩ : ∃ o, (we.setCell ⟨ge, 8, none⟩ (.int .u8 (n / 256))).cell? ⟨ge, 9, none⟩ = some o := ⟨_, hcell9⟩
  have f8' : we.frozen? ⟨ge, 8, none⟩ = false := f8
  have f9' : (we.setCell ⟨ge, 8, none⟩ (.int .u8 (n / 256))).frozen? ⟨ge, 9, none⟩ = false := f9
  have HC9 : Kp ((Kd.int .u8).C ((we.setCell ⟨ge, 8, none⟩ (.int .u8 (n / 256))).setCell ⟨ge, 9, none⟩ (.int .u8 (n % 256))) (some ⟨ge, 0, none⟩) wr.length ((wr.set 8 (n / 256)).set 9 (n % 256))) := ⟨by
    have h := (Kd.R_reads hput9)
    obtain ⟨A, c, e, -, hC⟩ := h
    injection e with e1 e2 e3
    subst e1
    rw [← e2] at hC
    exact hC⟩
  have hl9 : ((wr.set 8 (n / 256)).set 9 (n % 256)).length = wr.length := by rw [List.length_set, List.length_set]
  have i8 : (8 : Int) < (wr.length : Int) := by omega
  have i9 : (9 : Int) < (wr.length : Int) := by omega
  obtain ⟨zs, hzs⟩ : ∃ zs, (wr.set 8 (n / 256)).set 9 (n % 256) = zs := ⟨_, rfl⟩
  rw [hzs] at HC9 HP3 HYN hl9
  have HS9 := Kp.mk (HSd.out.step HB9.out)
  have HM9 := Kp.mk (erK.K_below HB9.out HMd.out)
  have HL9 := Kp.mk hl9
  clear hcell8 hcell9 f8 f9 hput8 hput9 hzs hl9 HRe HBe HB8 HSe HMe HMd HSd HB9 HCd
  go_wp2_with (fail)
  generalize (we.setCell ⟨ge, 8, none⟩ (.int .u8 (n / 256))).setCell ⟨ge, 9, none⟩ (.int .u8 (n % 256)) = wf at HC9 HS9 HM9 ⊢
  have hrc := parse_calls (some ⟨ge, 0, none⟩) ce zs wf Msg.zero (.fault 4 4) (by rw [HL9.out]; exact HC9.out) HYN.out (by rw [HL9.out]; exact hce) hcme HS9.out.env HP3.out
  rw [HL9.out] at hrc
  refine hrc.mono ?_
  clear hrc
  rintro e9 wh ⟨u5, u6, u7, u8, u, rfl, hR9, hM9, hB9⟩
  have HSh := Kp.mk (HS9.out.step hB9)
  have HMh := Kp.mk (erK.K_below hB9 HM9.out)
  have HNh := Kp.mk (erK.K_of_M hM9)
  obtain ⟨T5, k5, rfl⟩ := Kd.R_slice hR9.qs
  obtain ⟨T6, k6, rfl⟩ := Kd.R_slice hR9.an
  obtain ⟨T7, k7, rfl⟩ := Kd.R_slice hR9.au
  obtain ⟨T8, k8, rfl⟩ := Kd.R_slice hR9.ex
  have HZh := Kp.mk (HSh.out.below.alloc HSh.out.size (.cells #[.int .i64 0, .bool false, .int .i64 0, .int .i64 0, .int .i64 0, .slice none 0 0, .slice none 0 0, .slice none 0 0, .slice none 0 0] 59))
  clear hR9 hM9 hB9 HC9 HYN HP3 HL9 ho8 ho9 f8' f9' i8 i9 e1 e2 e3 hn hn1 hn2
  go_wp2_with (with_reducible refine st_blk (w0 := w) (base := w.heap.size) rfl 59 (.tmp 16) (.tmp 76) rfl rfl wh.heap.size _ rfl rfl ⟨heap_new _ _⟩ (by kernel_rfl) (by kernel_rfl) (by kernel_rfl) HZh HSh.out.size ?_)
  intro wi Hui HOi HBi hsi
  have hBhi := stored_new HSh.out.below HBi.out hsi HOi.out
  have HSi := Kp.mk (HSh.out.step hBhi)
  have HMi := Kp.mk (erK.K_below hBhi HMh.out)
  have HNi := Kp.mk (erK.K_below hBhi HNh.out)
  clear hsi hBhi HOi HBi HZh HMh HNh Hui
  rcases HE1.out with ⟨hxe, rfl⟩ | ⟨hxe, rfl⟩
  · subst hxe
    obtain rfl := er_open_none HMi.out
    clear HE1
    go_wp2_with (fail)
    refine b_ (at_calls _ _ _) HSi ?_
    intro wj HBj HSj
    have HNj := Kp.mk (erK.K_below HBj.out HNi.out)
    go_wp2_with (fail)
    refine b_ (same_calls (.fault 4 4) _ _ HNj.out HSj.out.env (.inr (by decide))) HSj ?_
    intro wk HBk HSk
    go_wp2
    go_ret
    exact ⟨rfl, HSk.out.below⟩
  · have bz : ((xs.length : Int) == 0) = false := by
      have : 0 < xs.length := List.length_pos_iff.2 hxe
      simp
      exact hxe
    have bz2 : decide ((xs.length : Int) = 0) = false := by simpa using hxe
    clear HE1 hxe
    go_wp2_with (fail)
    refine b_ (at_calls _ _ _) HSi ?_
    intro wj HBj HSj
    have HMj := Kp.mk (erK.K_below HBj.out HMi.out)
    go_wp2_with (fail)
    refine b_ (same_calls (.fault (wr.length : Int) 7) _ _ HMj.out HSj.out.env (.inr (by simp [Er.num]))) HSj ?_
    intro wk HBk HSk
    go_wp2_with (fail)
    refine b_ (at_calls _ _ _) HSk ?_
    intro wl HBl HSl
    have HNl := Kp.mk (erK.K_below (below_step HBj.out (below_step HBk.out HBl.out)) HNi.out)
    go_wp2_with (fail)
    refine b_ (same_calls (.fault 4 4) _ _ HNl.out HSl.out.env (.inr (by decide))) HSl ?_
    intro wm HBm HSm
    go_wp2
    go_ret
    exact ⟨rfl, HSm.out.below⟩
end Go.Proofs.YtlkneoednkhleaaGreatDoor
