/-
  The law DnsmsgHeads: all that the head says is told, of any two bytes: the walk.
-/
import Derived.Test.YtclgffblfjhciaaGreatDoorZAwake14
import Derived.Test.YtclgffblfjhciaaGreatDoorGt
import Derived.Deep.RegionHeld3
namespace Go.Proofs.YtclgffblfjhciaaGreatDoor
open Go.RowKit Go.Proofs.YtclgffblfjhciaaGreatDoorW.PrintWords
set_option linter.unusedVariables false
set_option linter.unusedSimpArgs false
set_option maxRecDepth 100000
set_option maxHeartbeats 2000000

theorem dnsmsgHeads_walk (a : Int) (ha1 : -9223372036854775808 ≤ a) (ha2 : a ≤ 9223372036854775807) (b : Int) (hb1 : -9223372036854775808 ≤ b) (hb2 : b ≤ 9223372036854775807) (w : World) (hE : Env w) :
    Calls Tryz.prog 13 #[.int .i64 a, .int .i64 b] w fun e w' => e = .returned (.bool true) ∧ Below w.heap.size w w' := by
  have HS := Kp.mk (St.start hE)
  obtain ⟨N, hN, hk1⟩ := umod a 65536 (by decide) (by decide)
  obtain ⟨M, hM, hk2⟩ := umod b 65536 (by decide) (by decide)
  have hN' : N ≤ 65535 := by omega
  have hM' : M ≤ 65535 := by omega
  have e1 : IntKind.u8.wrap ((N : Int) / 256) = (N : Int) / 256 := IntWalk.u8_in _ (by omega)
  have e2 : IntKind.u8.wrap (N : Int) = (N : Int) % 256 := by unfold IntKind.wrap IntKind.bits IntKind.signed; simp
  have e3 : IntKind.u8.wrap ((M : Int) / 256) = (M : Int) / 256 := IntWalk.u8_in _ (by omega)
  have e4 : IntKind.u8.wrap (M : Int) = (M : Int) % 256 := by unfold IntKind.wrap IntKind.bits IntKind.signed; simp
  have HPM := Kp.mk (parse_bare N M hN' hM')
  have HBY := Kp.mk (bare_byts N M hN' hM')
  have HWR := Kp.mk (fun c5 c6 c7 c8 A5 A6 A7 A8 W => write_bare_calls N M c5 c6 c7 c8 A5 A6 A7 A8 W hN' hM')
  have hL := lit_bytes w w.heap.size (bare14 N M) (Nat.le_refl _) (by show 12 ≤ 9223372036854775807; decide)
  have HC := Kp.mk (R_C hL).1
  have HS0 := Kp.mk (HS.out.alloc (.cells ((bare14 N M).map (Value.int .u8)).toArray 5))
  obtain ⟨rp, hrp⟩ : ∃ r, ((M : Int) / 32768 == 1) = r := ⟨_, rfl⟩
  have hrp2 : (rp == decide ((32768 : Int) ≤ (M : Int))) = true := by
    rw [← hrp]
    by_cases h : (32768 : Int) ≤ (M : Int)
    · have h3 : (M : Int) / 32768 = 1 := by omega
      simp [h, h3]
    · have h3 : (M : Int) / 32768 ≠ 1 := by omega
      simp [h, h3]
  have hhd : headOf N M = ⟨N, rp, (M : Int) / 2048 % 16, (M : Int) % 16, (M : Int) / 16 % 128, [], [], [], []⟩ := by unfold headOf; rw [hrp]
  rw [hhd] at HPM HWR
  have HRP := Kp.mk hrp2
  clear hE hL hrp hrp2 hhd
  go_enter Tryz.func13, Tryz.ntmps13
  go_wp2_with (fail)
  refine (parse_calls _ 12 (bare14 N M) _ _ _ HC.out HBY.out (by show 12 ≤ 12; decide) (by decide) HS0.out.env HPM.out).mono ?_
  rintro e2 w2 ⟨v5, v6, v7, v8, v, rfl, hR, hM, hB⟩
  obtain rfl := er_open_none (erK.K_of_M hM)
  obtain ⟨A5, c5, rfl⟩ := Kd.R_slice hR.qs
  obtain ⟨A6, c6, rfl⟩ := Kd.R_slice hR.an
  obtain ⟨A7, c7, rfl⟩ := Kd.R_slice hR.au
  obtain ⟨A8, c8, rfl⟩ := Kd.R_slice hR.ex
  have HS2 := Kp.mk (HS0.out.step hB)
  have HZ2 := Kp.mk (HS2.out.below.alloc HS2.out.size (.cells #[.int .i64 0, .bool false, .int .i64 0, .int .i64 0, .int .i64 0, .slice none 0 0, .slice none 0 0, .slice none 0 0, .slice none 0 0] 71))
  have HWR2 := Kp.mk (HWR.out c5 c6 c7 c8 A5 A6 A7 A8)
  clear hR hM hB HWR HC HBY HPM
  go_wp2_with (with_reducible refine st_blk (w0 := w) (base := w.heap.size) rfl 71 (.tmp 5) (.tmp 30) rfl rfl w2.heap.size _ rfl rfl ⟨heap_new _ _⟩ (by kernel_rfl) (by kernel_rfl) (by kernel_rfl) HZ2 HS2.out.size ?_)
  intro w3 Hg3 HO3 HB3 hs3
  have hB23 := stored_new HS2.out.below HB3.out hs3 HO3.out
  have HS3 := Kp.mk (HS2.out.step hB23)
  clear hs3 HO3 HB3 hB23 HZ2
  go_wp2_with (with_reducible refine ld_blk rfl 71 (.tmp 5) rfl w2.heap.size rfl Hg3 Tryz.underlying71 rfl (by kernel_rfl) ?_)
  refine g2sn_ (HWR2.out _ HS3.out.env) HS3 ?_
  intro A9 c9 w4 hc9 hcm9 HC9 HM9 HB4 HS4
  have Hg4 := Kp.mk ((HB4.out.block _ (heap_lt Hg3.out)).trans Hg3.out)
  obtain ⟨ad, rfl, y2⟩ := at_nat HC9.out 2 (by show 2 < 12; decide)
  obtain ⟨ad', he, y3⟩ := at_nat HC9.out 3 (by show 3 < 12; decide)
  injection he with he
  subst he
  have F0 : Kp (w4.drew.cell? ⟨w2.heap.size, 0, none⟩ = some (.int .i64 (N : Int))) := ⟨by have := blk_cell Hg4.out 0; simpa using this⟩
  have F1 : Kp (w4.drew.cell? ⟨w2.heap.size, 1, none⟩ = some (.bool rp)) := ⟨by have := blk_cell Hg4.out 1; simpa using this⟩
  have F2 : Kp (w4.drew.cell? ⟨w2.heap.size, 2, none⟩ = some (.int .i64 ((M : Int) / 2048 % 16))) := ⟨by have := blk_cell Hg4.out 2; simpa using this⟩
  have F3 : Kp (w4.drew.cell? ⟨w2.heap.size, 3, none⟩ = some (.int .i64 ((M : Int) % 16))) := ⟨by have := blk_cell Hg4.out 3; simpa using this⟩
  have F4 : Kp (w4.drew.cell? ⟨w2.heap.size, 4, none⟩ = some (.int .i64 ((M : Int) / 16 % 128))) := ⟨by have := blk_cell Hg4.out 4; simpa using this⟩
  have F5 : Kp (w4.drew.cell? ⟨ad.block, ad.off + 2, none⟩ = some (.int .u8 ((M : Int) / 256))) := ⟨y2⟩
  have F6 : Kp (w4.drew.cell? ⟨ad.block, ad.off + 3, none⟩ = some (.int .u8 ((M : Int) % 256))) := ⟨y3⟩
  have HSd := Kp.mk (HS4.out.step (below_drew (Below.refl _ _)))
  have m1 : bits .and .i64 ((M : Int) / 2048) 15 = (M : Int) / 2048 % 16 := and_mask4 _ (by omega) (by omega)
  have m2 : bits .and .i64 (M : Int) 15 = (M : Int) % 16 := and_mask4 _ (by omega) (by omega)
  have m3 : bits .and .i64 ((M : Int) / 16) 127 = (M : Int) / 16 % 128 := and_mask7 _ (by omega) (by omega)
  have m4 : bits .or .i64 ((M : Int) / 256 * 256) ((M : Int) % 256) = (M : Int) := (bits_join .i64 16 (by decide) (fun n h0 h1 => IntWalk.i64_in n (by omega)) 8 _ _ (by omega) (by omega) (by omega) (by omega) (by omega) (by omega)).trans (by omega)
  have m5 := HRP.out
  have n1 : IntKind.i64.wrap ((M : Int) / 256) = (M : Int) / 256 := IntWalk.i64_in _ (by omega)
  have n2 : IntKind.i64.wrap ((M : Int) / 256 * 256) = (M : Int) / 256 * 256 := IntWalk.i64_in _ (by omega)
  have n3 : IntKind.i64.wrap ((M : Int) % 256) = (M : Int) % 256 := IntWalk.i64_in _ (by omega)
  clear y2 y3 Hg3 Hg4 e1 e2 e3 e4 HM9 HC9
  go_wp2_with (fail)
  simp only [show (bare14 N M).length = 12 from rfl, List.append_eq, List.cons_append, List.nil_append]
  go_region_held3 (fun w' => w'.cell? ⟨w2.heap.size, 0, none⟩ = some (.int .i64 (N : Int)) ∧ w'.cell? ⟨w2.heap.size, 1, none⟩ = some (.bool rp) ∧ w'.cell? ⟨w2.heap.size, 2, none⟩ = some (.int .i64 ((M : Int) / 2048 % 16)) ∧ w'.cell? ⟨w2.heap.size, 3, none⟩ = some (.int .i64 ((M : Int) % 16)) ∧ w'.cell? ⟨w2.heap.size, 4, none⟩ = some (.int .i64 ((M : Int) / 16 % 128)) ∧ w'.cell? ⟨ad.block, ad.off + 2, none⟩ = some (.int .u8 ((M : Int) / 256)) ∧ w'.cell? ⟨ad.block, ad.off + 3, none⟩ = some (.int .u8 ((M : Int) % 256)))
    (first | exact ⟨F0.out, F1.out, F2.out, F3.out, F4.out, F5.out, F6.out⟩ | exact ⟨pw_cell_below HB5.out F0.out, pw_cell_below HB5.out F1.out, pw_cell_below HB5.out F2.out, pw_cell_below HB5.out F3.out, pw_cell_below HB5.out F4.out, pw_cell_below HB5.out F5.out, pw_cell_below HB5.out F6.out⟩ | go_keep)
    ((go_at_call 35; (with_reducible refine b_ (awake14_calls _ HSd.out.env) HSd ?_); intro w5 HB5 HS5))
  go_wp2
  go_ret
  exact ⟨rfl, HS5.out.below⟩
end Go.Proofs.YtclgffblfjhciaaGreatDoor
