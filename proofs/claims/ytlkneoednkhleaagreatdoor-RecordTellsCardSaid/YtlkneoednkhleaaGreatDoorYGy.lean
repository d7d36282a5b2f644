/-
  Several texts of this seat in one: RecF, RecG, RecH.
-/
import Derived.Test.YtlkneoednkhleaaGreatDoorYGs
import Derived.Test.YtlkneoednkhleaaGreatDoorYZSameRec
import Derived.Deep.RegionHeld3
namespace Go.Proofs.YtlkneoednkhleaaGreatDoor
open Go.RowKit Go.Proofs.YtlkneoednkhleaaGreatDoorW.PrintWords
set_option linter.unusedVariables false
set_option linter.unusedSimpArgs false
set_option maxRecDepth 100000
set_option maxHeartbeats 1000000

theorem wr_bad (r : Rec) (A : Option Addr) (c : Nat) (w : World) (hE : Env w) (hs : r.name.length < 4294967281) (ht : r.tgt.length < 4294967281) (hd : r.data.length ≤ 9223372036854775807) (hr : r.right = false) :
    Calls Tryz.prog 15 #[.agg (recA r (.slice A r.data.length c))] w (Gives2 bytesK erK [] (.code 1) w) := by
  obtain ⟨rn, rt, rc, rl, ⟨v6, b⟩, rtg, rd⟩ := r
  show Calls Tryz.prog 15 #[.agg #[.string (mkB rn), .int .i64 rt, .int .i64 rc, .int .u32 rl, .bool v6, .int .u8 (b 0), .int .u8 (b 1), .int .u8 (b 2), .int .u8 (b 3), .int .u8 (b 4), .int .u8 (b 5), .int .u8 (b 6), .int .u8 (b 7), .int .u8 (b 8), .int .u8 (b 9), .int .u8 (b 10), .int .u8 (b 11), .int .u8 (b 12), .int .u8 (b 13), .int .u8 (b 14), .int .u8 (b 15), .string (mkB rtg), .slice A rd.length c]] w (Gives2 bytesK erK [] (.code 1) w)
  have HS := Kp.mk ((St.start hE).alloc (.cells #[.string (mkB rn), .int .i64 rt, .int .i64 rc, .int .u32 rl, .bool v6, .int .u8 (b 0), .int .u8 (b 1), .int .u8 (b 2), .int .u8 (b 3), .int .u8 (b 4), .int .u8 (b 5), .int .u8 (b 6), .int .u8 (b 7), .int .u8 (b 8), .int .u8 (b 9), .int .u8 (b 10), .int .u8 (b 11), .int .u8 (b 12), .int .u8 (b 13), .int .u8 (b 14), .int .u8 (b 15), .string (mkB rtg), .slice A rd.length c] 28))
  have Hg := Kp.mk (heap_new w (.cells #[.string (mkB rn), .int .i64 rt, .int .i64 rc, .int .u32 rl, .bool v6, .int .u8 (b 0), .int .u8 (b 1), .int .u8 (b 2), .int .u8 (b 3), .int .u8 (b 4), .int .u8 (b 5), .int .u8 (b 6), .int .u8 (b 7), .int .u8 (b 8), .int .u8 (b 9), .int .u8 (b 10), .int .u8 (b 11), .int .u8 (b 12), .int .u8 (b 13), .int .u8 (b 14), .int .u8 (b 15), .string (mkB rtg), .slice A rd.length c] 28))
  have HR := Kp.mk hr
  clear hE hr
  dsimp only at hs ht hd
  go_enter Tryz.func15, Tryz.ntmps15
  go_wp2_with (with_reducible refine ld_blk rfl 28 (.tmp 1) rfl w.heap.size rfl Hg Tryz.underlying28 rfl (by kernel_rfl) ?_)
  refine b_ (asked_calls ⟨rn, rt, rc, rl, ⟨v6, b⟩, rtg, rd⟩ A rd.length c _) HS ?_
  intro w1 HB1 HS1
  have Hg1 := Kp.mk ((HB1.out.block _ (heap_lt Hg.out)).trans Hg.out)
  by_cases hq : Qu.right ⟨rn, rt, rc⟩ = true
  · have HQ := Kp.mk hq
    clear hq
    go_wp2_with (fail)
    refine g2sn_ (wq_good ⟨rn, rt, rc⟩ _ HS1.out.env hs HQ.out) HS1 ?_
    intro A2 c2 w2 hc2 hcm2 HC2 HM2 HB2 HS2
    have Hg2 := Kp.mk ((HB2.out.block _ (heap_lt Hg1.out)).trans Hg1.out)
    go_wp2_with (with_reducible refine ld_blkG (by kernel_rfl) 28 (.tmp 1) rfl w.heap.size rfl Hg2 Tryz.underlying28 rfl (by kernel_rfl) ?_)
    refine b_ (rightRec_calls ⟨rn, rt, rc, rl, ⟨v6, b⟩, rtg, rd⟩ A c _ HS2.out.env hs ht hd) HS2 ?_
    intro w3 HB3 HS3
    rw [HR.out]
    go_wp2
    go_ret2
    exact ⟨_, _, rfl, ⟨_, rfl, Kd.R_nil _ _ _ _ _⟩, er_code _ _ _ _, HS3.out.below⟩
  · have hq' : Qu.right ⟨rn, rt, rc⟩ = false := by simpa using hq
    have HQ := Kp.mk hq'
    clear hq hq'
    go_wp2_with (fail)
    refine g2_ (wq_bad ⟨rn, rt, rc⟩ _ HS1.out.env hs HQ.out) HS1 ?_
    intro v2 v2e w2 HM2 HE2 HB2 HS2
    obtain rfl := er_open_code (erK.K_of_M HE2.out)
    go_wp2
    go_ret2
    exact ⟨_, _, rfl, ⟨_, rfl, Kd.R_nil _ _ _ _ _⟩, er_code _ _ _ _, HS2.out.below⟩
end Go.Proofs.YtlkneoednkhleaaGreatDoor

namespace Go.Proofs.YtlkneoednkhleaaGreatDoor
open Go.RowKit Go.Proofs.YtlkneoednkhleaaGreatDoorW.PrintWords
set_option linter.unusedVariables false
set_option linter.unusedSimpArgs false
set_option maxRecDepth 100000
set_option maxHeartbeats 1000000

/-- A record's bytes. -/
def Rec.wire (r : Rec) : List Int := Qu.wire ⟨r.name, r.typ, r.cls⟩ ++ be32 r.ttl ++ be16 r.body.length ++ r.body
theorem ad_l_len (a : Ad) : a.l.length = 16 := rfl
theorem body_len (r : Rec) (h : r.right = true) : r.body.length ≤ 1016 := by
  unfold Rec.right at h
  simp only [Bool.and_eq_true, decide_eq_true_eq] at h
  have h1 := nameW_len r.tgt h.2.1
  unfold Rec.body
  split
  · omega
  · rw [List.length_append, List.length_take, ad_l_len]
    omega
theorem ad_C {w : World} {g : Nat} {rn : L} {rt rc rl : Int} {v6 : Bool} {b : Nat → Int} {rtg : L} {v : Value} (h : w.heap[g]? = some (.cells #[.string (mkB rn), .int .i64 rt, .int .i64 rc, .int .u32 rl, .bool v6, .int .u8 (b 0), .int .u8 (b 1), .int .u8 (b 2), .int .u8 (b 3), .int .u8 (b 4), .int .u8 (b 5), .int .u8 (b 6), .int .u8 (b 7), .int .u8 (b 8), .int .u8 (b 9), .int .u8 (b 10), .int .u8 (b 11), .int .u8 (b 12), .int .u8 (b 13), .int .u8 (b 14), .int .u8 (b 15), .string (mkB rtg), v] 28 (0, 0))) (z : Nat) (hz : z ≤ 16) :
    (Kd.int .u8).C w (some ⟨g, 5, none⟩) z ([b 0, b 1, b 2, b 3, b 4, b 5, b 6, b 7, b 8, b 9, b 10, b 11, b 12, b 13, b 14, b 15].take z) := by
  have hl : ([b 0, b 1, b 2, b 3, b 4, b 5, b 6, b 7, b 8, b 9, b 10, b 11, b 12, b 13, b 14, b 15].take z).length = z := by
    rw [List.length_take]
    show min z 16 = z
    omega
  have h2 := C_blk (o := 5) (k := .u8) (xs := [b 0, b 1, b 2, b 3, b 4, b 5, b 6, b 7, b 8, b 9, b 10, b 11, b 12, b 13, b 14, b 15].take z) h (by rw [hl]; omega) (fun j hj => by
    rw [hl] at hj
    have e : ([b 0, b 1, b 2, b 3, b 4, b 5, b 6, b 7, b 8, b 9, b 10, b 11, b 12, b 13, b 14, b 15].take z).getD j 0 = [b 0, b 1, b 2, b 3, b 4, b 5, b 6, b 7, b 8, b 9, b 10, b 11, b 12, b 13, b 14, b 15].getD j 0 := by
      rw [List.getD_eq_getElem?_getD, List.getD_eq_getElem?_getD, List.getElem?_take, if_pos hj]
    rw [e]
    have hj16 : j < 16 := by omega
    match j, hj16 with
    | 0, _ | 1, _ | 2, _ | 3, _ | 4, _ | 5, _ | 6, _ | 7, _ | 8, _ | 9, _ | 10, _ | 11, _ | 12, _ | 13, _ | 14, _ | 15, _ => rfl
    | _ + 16, h => exact absurd h (by omega))
  rw [hl] at h2
  exact h2
theorem data_calls (r : Rec) (A : Option Addr) (c : Nat) (w : World) (hE : Env w) (h : (Kd.int .u8).C w A r.data.length r.data) (hc : r.data.length ≤ c) (hr : r.right = true) (ht : r.tgt.length < 4294967281) :
    Calls Tryz.prog 49 #[.agg (recA r (.slice A r.data.length c))] w (Gives bytesK r.body w) := by
  have hrr := hr
  unfold Rec.right at hrr
  simp only [Bool.and_eq_true, decide_eq_true_eq] at hrr
  obtain ⟨-, htr, hdl, -⟩ := hrr
  obtain ⟨rn, rt, rc, rl, ⟨v6, b⟩, rtg, rd⟩ := r
  dsimp only at htr hdl ht hc h
  have HTR := Kp.mk htr
  have HS := Kp.mk ((St.start hE).alloc (.cells #[.string (mkB rn), .int .i64 rt, .int .i64 rc, .int .u32 rl, .bool v6, .int .u8 (b 0), .int .u8 (b 1), .int .u8 (b 2), .int .u8 (b 3), .int .u8 (b 4), .int .u8 (b 5), .int .u8 (b 6), .int .u8 (b 7), .int .u8 (b 8), .int .u8 (b 9), .int .u8 (b 10), .int .u8 (b 11), .int .u8 (b 12), .int .u8 (b 13), .int .u8 (b 14), .int .u8 (b 15), .string (mkB rtg), .slice A rd.length c] 28))
  have hg := heap_new w (.cells #[.string (mkB rn), .int .i64 rt, .int .i64 rc, .int .u32 rl, .bool v6, .int .u8 (b 0), .int .u8 (b 1), .int .u8 (b 2), .int .u8 (b 3), .int .u8 (b 4), .int .u8 (b 5), .int .u8 (b 6), .int .u8 (b 7), .int .u8 (b 8), .int .u8 (b 9), .int .u8 (b 10), .int .u8 (b 11), .int .u8 (b 12), .int .u8 (b 13), .int .u8 (b 14), .int .u8 (b 15), .string (mkB rtg), .slice A rd.length c] 28)
  have Hg := Kp.mk hg
  have HC := Kp.mk (Kd.C_below h HS.out.below)
  obtain ⟨bd, hbd⟩ : ∃ bd, Rec.body ⟨rn, rt, rc, rl, ⟨v6, b⟩, rtg, rd⟩ = bd := ⟨_, rfl⟩
  have hbe : bd = if rt = 5 then nameW rtg else [b 0, b 1, b 2, b 3, b 4, b 5, b 6, b 7, b 8, b 9, b 10, b 11, b 12, b 13, b 14, b 15].take (szT rt).toNat ++ rd := hbd.symm
  rw [hbd]
  show Calls Tryz.prog 49 #[.agg #[.string (mkB rn), .int .i64 rt, .int .i64 rc, .int .u32 rl, .bool v6, .int .u8 (b 0), .int .u8 (b 1), .int .u8 (b 2), .int .u8 (b 3), .int .u8 (b 4), .int .u8 (b 5), .int .u8 (b 6), .int .u8 (b 7), .int .u8 (b 8), .int .u8 (b 9), .int .u8 (b 10), .int .u8 (b 11), .int .u8 (b 12), .int .u8 (b 13), .int .u8 (b 14), .int .u8 (b 15), .string (mkB rtg), .slice A rd.length c]] w (Gives bytesK bd w)
  have HBE := Kp.mk hbe
  clear hE h hr htr hbd hbe
  by_cases h5 : rt = 5
  · subst h5
    have hb := HBE.out
    rw [if_pos rfl] at hb
    subst hb
    clear hg
    go_enter Tryz.func49, Tryz.ntmps49
    go_wp2_with (fail)
    refine g2sn_ (writeB_good rtg _ HS.out.env ht HTR.out) HS ?_
    intro A1 c1 w1 hc1 hcm1 HC1 HM1 HB1 HS1
    go_wp2
    go_ret
    exact ⟨_, rfl, (by obtain ⟨v', hv, hR⟩ := HM1.out; exact ⟨v', hv, Kd.R_lower hR (by simp)⟩), HS1.out.below⟩
  · have b5 : (rt == 5) = false := by simpa using h5
    have hb := HBE.out
    rw [if_neg h5] at hb
    have hz : szT rt = 0 ∨ szT rt = 4 ∨ szT rt = 16 := by unfold szT; split; exact .inr (.inr rfl); split; exact .inr (.inl rfl); exact .inl rfl
    obtain ⟨z, hzz⟩ : ∃ z : Nat, szT rt = (z : Int) ∧ z ≤ 16 := by
      rcases hz with h | h | h
      · exact ⟨0, h, by decide⟩
      · exact ⟨4, h, by decide⟩
      · exact ⟨16, h, by decide⟩
    obtain ⟨hz1, hz2⟩ := hzz
    rw [hz1, Int.toNat_natCast] at hb
    have HCA := Kp.mk (ad_C hg z hz2)
    obtain ⟨ys, hys⟩ : ∃ ys, [b 0, b 1, b 2, b 3, b 4, b 5, b 6, b 7, b 8, b 9, b 10, b 11, b 12, b 13, b 14, b 15].take z = ys := ⟨_, rfl⟩
    have hyl : ys.length = z := by rw [← hys, List.length_take]; show min z 16 = z; omega
    rw [hys] at HCA hb
    have HSZ : Kp (∀ W, Calls Tryz.prog 84 #[.int .i64 rt] W fun e w' => e = .returned (.int .i64 (z : Int)) ∧ W = w') := ⟨fun W => hz1 ▸ sz_calls rt W⟩
    subst hyl
    have hrows := lit_rows (w := w.alloc (.cells #[.string (mkB rn), .int .i64 rt, .int .i64 rc, .int .u32 rl, .bool v6, .int .u8 (b 0), .int .u8 (b 1), .int .u8 (b 2), .int .u8 (b 3), .int .u8 (b 4), .int .u8 (b 5), .int .u8 (b 6), .int .u8 (b 7), .int .u8 (b 8), .int .u8 (b 9), .int .u8 (b 10), .int .u8 (b 11), .int .u8 (b 12), .int .u8 (b 13), .int .u8 (b 14), .int .u8 (b 15), .string (mkB rtg), .slice A rd.length c] 28)) (T := 22) [.slice (some ⟨w.heap.size, 5, none⟩) ys.length 16, .slice A rd.length c] [ys, rd] rfl (by show 2 ≤ 9223372036854775807; decide) (fun j hj => by
      have hj' : j < 2 := hj
      match j, hj' with
      | 0, _ => exact ⟨_, 16, rfl, hz2, HCA.out⟩
      | 1, _ => exact ⟨A, c, rfl, hc, HC.out⟩)
    have hz8 : (w.alloc (.cells #[.string (mkB rn), .int .i64 rt, .int .i64 rc, .int .u32 rl, .bool v6, .int .u8 (b 0), .int .u8 (b 1), .int .u8 (b 2), .int .u8 (b 3), .int .u8 (b 4), .int .u8 (b 5), .int .u8 (b 6), .int .u8 (b 7), .int .u8 (b 8), .int .u8 (b 9), .int .u8 (b 10), .int .u8 (b 11), .int .u8 (b 12), .int .u8 (b 13), .int .u8 (b 14), .int .u8 (b 15), .string (mkB rtg), .slice A rd.length c] 28)).heap.size = w.heap.size + 1 := by simp
    rw [hz8] at hrows
    have hfl : [ys, rd].flatten = ys ++ rd := by simp
    have hcat := concatB_calls _ 2 [ys, rd] _ (Kd.C_below hrows (below_drew (Below.refl _ _))) (by rw [hfl, List.length_append]; omega)
    rw [hfl] at hcat
    have HCAT := Kp.mk hcat
    have HSd2 := Kp.mk ((HS.out.alloc (.cells #[.slice (some ⟨w.heap.size, 5, none⟩) ys.length 16, .slice A rd.length c] 22)).step (below_drew (Below.refl _ _)))
    have F1 := Kp.mk (show (((w.alloc (.cells #[.string (mkB rn), .int .i64 rt, .int .i64 rc, .int .u32 rl, .bool v6, .int .u8 (b 0), .int .u8 (b 1), .int .u8 (b 2), .int .u8 (b 3), .int .u8 (b 4), .int .u8 (b 5), .int .u8 (b 6), .int .u8 (b 7), .int .u8 (b 8), .int .u8 (b 9), .int .u8 (b 10), .int .u8 (b 11), .int .u8 (b 12), .int .u8 (b 13), .int .u8 (b 14), .int .u8 (b 15), .string (mkB rtg), .slice A rd.length c] 28)).alloc (.cells #[.slice (some ⟨w.heap.size, 5, none⟩) ys.length 16, .slice A rd.length c] 22)).drew).cell? ⟨w.heap.size, 1, none⟩ = some (.int .i64 rt) from (World.cell?_alloc_lt _ _ ⟨w.heap.size, 1, none⟩ (by simp)).trans (blk_cell hg 1))
    have F22 := Kp.mk (show (((w.alloc (.cells #[.string (mkB rn), .int .i64 rt, .int .i64 rc, .int .u32 rl, .bool v6, .int .u8 (b 0), .int .u8 (b 1), .int .u8 (b 2), .int .u8 (b 3), .int .u8 (b 4), .int .u8 (b 5), .int .u8 (b 6), .int .u8 (b 7), .int .u8 (b 8), .int .u8 (b 9), .int .u8 (b 10), .int .u8 (b 11), .int .u8 (b 12), .int .u8 (b 13), .int .u8 (b 14), .int .u8 (b 15), .string (mkB rtg), .slice A rd.length c] 28)).alloc (.cells #[.slice (some ⟨w.heap.size, 5, none⟩) ys.length 16, .slice A rd.length c] 22)).drew).cell? ⟨w.heap.size, 22, none⟩ = some (.slice A rd.length c) from (World.cell?_alloc_lt _ _ ⟨w.heap.size, 22, none⟩ (by simp)).trans (blk_cell hg 22))
    have HB := Kp.mk hb
    clear hrows hz8 hfl hcat
    have t1 : _ = some (Value.int .i64 rt) := blk_cell hg 1
    have t22 : _ = some (Value.slice A rd.length c) := blk_cell hg 22
    have z0 : (0 : Int) ≤ (ys.length : Int) := by omega
    have z1 : (ys.length : Int) ≤ 16 := by omega
    clear hg hz hz1 hys hb HBE
    go_enter Tryz.func49, Tryz.ntmps49
    go_wp2_with (fail)
    go_region_held3 (fun w' => w'.cell? ⟨w.heap.size, 1, none⟩ = some (.int .i64 rt) ∧ w'.cell? ⟨w.heap.size, 22, none⟩ = some (.slice A rd.length c)) (first | go_keep | exact ⟨F1.out, F22.out⟩ | exact ⟨pw_cell_below HB9.out F1.out, pw_cell_below HB9.out F22.out⟩)
      (first
        | (go_at_call 84; (with_reducible refine (HSZ.out _).mono ?_); rintro e3 w3 ⟨rfl, rfl⟩)
        | (go_at_call 50; (with_reducible refine gs_ HCAT.out HSd2 ?_); intro A9 c9 w9 hc9 hcm9 HC9 HM9 HB9 HS9))
    go_wp2
    go_ret
    have h9 := HM9.out
    rw [List.length_append] at h9
    exact ⟨_, rfl, (by rw [HB.out]; obtain ⟨v', hv, hR⟩ := h9; exact ⟨v', hv, Kd.R_lower hR (by have := HSd2.out.size; exact this)⟩), HS9.out.below⟩
end Go.Proofs.YtlkneoednkhleaaGreatDoor

namespace Go.Proofs.YtlkneoednkhleaaGreatDoor
open Go.RowKit Go.Proofs.YtlkneoednkhleaaGreatDoorW.PrintWords
set_option linter.unusedVariables false
set_option linter.unusedSimpArgs false
set_option maxRecDepth 100000
set_option maxHeartbeats 2000000

theorem wr_good (r : Rec) (A : Option Addr) (c : Nat) (w : World) (hE : Env w) (h : (Kd.int .u8).C w A r.data.length r.data) (hc : r.data.length ≤ c) (hr : r.right = true) (hs : r.name.length < 4294967281) (ht : r.tgt.length < 4294967281) (hl0 : 0 ≤ r.ttl) (hl1 : r.ttl ≤ 4294967295) :
    Calls Tryz.prog 15 #[.agg (recA r (.slice A r.data.length c))] w (Gives2 bytesK erK r.wire .none w) := by
  have hbl := body_len r hr
  have hq : Qu.right ⟨r.name, r.typ, r.cls⟩ = true := by
    have hrr := hr
    unfold Rec.right at hrr
    simp only [Bool.and_eq_true] at hrr
    exact hrr.1
  have hd : r.data.length ≤ 1000 := by
    have hrr := hr
    unfold Rec.right at hrr
    simp only [Bool.and_eq_true, decide_eq_true_eq] at hrr
    exact hrr.2.2.1
  have hql : (Qu.wire ⟨r.name, r.typ, r.cls⟩).length ≤ 260 := by
    have := nameW_len r.name (Qu.right_mk hq).1
    unfold Qu.wire
    simp only [List.length_append]
    show (nameW r.name).length + 2 + 2 ≤ 260
    omega
  obtain ⟨rn, rt, rc, rl, ⟨v6, b⟩, rtg, rd⟩ := r
  have hw : Rec.wire ⟨rn, rt, rc, rl, ⟨v6, b⟩, rtg, rd⟩ = Qu.wire ⟨rn, rt, rc⟩ ++ be32 rl ++ be16 (Rec.body ⟨rn, rt, rc, rl, ⟨v6, b⟩, rtg, rd⟩).length ++ Rec.body ⟨rn, rt, rc, rl, ⟨v6, b⟩, rtg, rd⟩ := rfl
  rw [hw]
  dsimp only at hs ht hd hq hql hl0 hl1 h hc
  obtain ⟨bd, hbd⟩ : ∃ bd, Rec.body ⟨rn, rt, rc, rl, ⟨v6, b⟩, rtg, rd⟩ = bd := ⟨_, rfl⟩
  obtain ⟨qs, hqs⟩ : ∃ qs, Qu.wire ⟨rn, rt, rc⟩ = qs := ⟨_, rfl⟩
  rw [hbd] at hbl ⊢
  rw [hqs] at hql ⊢
  obtain ⟨wr, hwr⟩ : ∃ wr, qs ++ be32 rl ++ be16 bd.length ++ bd = wr := ⟨_, rfl⟩
  rw [hwr]
  have HWR := Kp.mk hwr
  show Calls Tryz.prog 15 #[.agg #[.string (mkB rn), .int .i64 rt, .int .i64 rc, .int .u32 rl, .bool v6, .int .u8 (b 0), .int .u8 (b 1), .int .u8 (b 2), .int .u8 (b 3), .int .u8 (b 4), .int .u8 (b 5), .int .u8 (b 6), .int .u8 (b 7), .int .u8 (b 8), .int .u8 (b 9), .int .u8 (b 10), .int .u8 (b 11), .int .u8 (b 12), .int .u8 (b 13), .int .u8 (b 14), .int .u8 (b 15), .string (mkB rtg), .slice A rd.length c]] w (Gives2 bytesK erK wr .none w)
  have HS := Kp.mk ((St.start hE).alloc (.cells #[.string (mkB rn), .int .i64 rt, .int .i64 rc, .int .u32 rl, .bool v6, .int .u8 (b 0), .int .u8 (b 1), .int .u8 (b 2), .int .u8 (b 3), .int .u8 (b 4), .int .u8 (b 5), .int .u8 (b 6), .int .u8 (b 7), .int .u8 (b 8), .int .u8 (b 9), .int .u8 (b 10), .int .u8 (b 11), .int .u8 (b 12), .int .u8 (b 13), .int .u8 (b 14), .int .u8 (b 15), .string (mkB rtg), .slice A rd.length c] 28))
  have Hg := Kp.mk (heap_new w (.cells #[.string (mkB rn), .int .i64 rt, .int .i64 rc, .int .u32 rl, .bool v6, .int .u8 (b 0), .int .u8 (b 1), .int .u8 (b 2), .int .u8 (b 3), .int .u8 (b 4), .int .u8 (b 5), .int .u8 (b 6), .int .u8 (b 7), .int .u8 (b 8), .int .u8 (b 9), .int .u8 (b 10), .int .u8 (b 11), .int .u8 (b 12), .int .u8 (b 13), .int .u8 (b 14), .int .u8 (b 15), .string (mkB rtg), .slice A rd.length c] 28))
  have HC := Kp.mk (Kd.C_below h HS.out.below)
  have HR := Kp.mk hr
  have HQ := Kp.mk hq
  have HBD := Kp.mk hbd
  have HQS := Kp.mk hqs
  clear hE h hr hq hbd hqs hw hwr
  go_enter Tryz.func15, Tryz.ntmps15
  go_wp2_with (with_reducible refine ld_blk rfl 28 (.tmp 1) rfl w.heap.size rfl Hg Tryz.underlying28 rfl (by kernel_rfl) ?_)
  refine b_ (asked_calls ⟨rn, rt, rc, rl, ⟨v6, b⟩, rtg, rd⟩ A rd.length c _) HS ?_
  intro w1 HB1 HS1
  have Hg1 := Kp.mk ((HB1.out.block _ (heap_lt Hg.out)).trans Hg.out)
  go_wp2_with (fail)
  refine g2sn_ (HQS.out ▸ wq_good ⟨rn, rt, rc⟩ _ HS1.out.env hs HQ.out) HS1 ?_
  intro A2 c2 w2 hc2 hcm2 HC2 HM2 HB2 HS2
  have Hg2 := Kp.mk ((HB2.out.block _ (heap_lt Hg1.out)).trans Hg1.out)
  go_wp2_with (with_reducible refine ld_blkG (by kernel_rfl) 28 (.tmp 1) rfl w.heap.size rfl Hg2 Tryz.underlying28 rfl (by kernel_rfl) ?_)
  refine b_ (rightRec_calls ⟨rn, rt, rc, rl, ⟨v6, b⟩, rtg, rd⟩ A c _ HS2.out.env hs ht (by show rd.length ≤ _; omega)) HS2 ?_
  intro w3 HB3 HS3
  rw [HR.out]
  have Hg3 := Kp.mk ((HB3.out.block _ (heap_lt Hg2.out)).trans Hg2.out)
  have HC2a := Kp.mk (Kd.C_below HC2.out HB3.out)
  go_wp2_with (with_reducible refine ld_blk rfl 28 (.tmp 1) rfl w.heap.size rfl Hg3 Tryz.underlying28 rfl (by kernel_rfl) ?_)
  have HCr := Kp.mk (Kd.C_below HC.out (below_step HB1.out (below_step HB2.out HB3.out)))
  refine gs_ (HBD.out ▸ data_calls ⟨rn, rt, rc, rl, ⟨v6, b⟩, rtg, rd⟩ A c _ HS3.out.env HCr.out hc HR.out ht) HS3 ?_
  intro A4 c4 w4 hc4 hcm4 HC4 HM4 HB4 HS4
  have Hg4 := Kp.mk ((HB4.out.block _ (heap_lt Hg3.out)).trans Hg3.out)
  have HC2b := Kp.mk (Kd.C_below HC2a.out HB4.out)
  obtain ⟨ys, hys⟩ : ∃ ys, qs ++ be32 rl = ys := ⟨_, rfl⟩
  have hyl : ys.length ≤ 264 := by rw [← hys, List.length_append]; show qs.length + 4 ≤ 264; omega
  obtain ⟨zs, hzs⟩ : ∃ zs, ys ++ be16 bd.length = zs := ⟨_, rfl⟩
  have hzl : zs.length ≤ 266 := by rw [← hzs, List.length_append]; show ys.length + 2 ≤ 266; omega
  have H1 : Kp (∀ W, (Kd.int .u8).C W A2 qs.length qs → Calls Tryz.prog 52 #[.slice A2 qs.length c2, .int .u32 rl] W (Gives (Kd.slice 5 (Kd.int .u8)) ys W)) := ⟨fun W h => hys ▸ put32_calls A2 qs.length c2 qs rl W h hc2 (by omega) hl0 hl1⟩
  have H2 : Kp (∀ W A c, (Kd.int .u8).C W A ys.length ys → ys.length ≤ c → Calls Tryz.prog 51 #[.slice A ys.length c, .int .i64 (bd.length : Int)] W (Gives (Kd.slice 5 (Kd.int .u8)) zs W)) := ⟨fun W A c h hc => hzs ▸ put16_calls A ys.length c ys bd.length W h hc (by omega) (by omega) (by omega)⟩
  have H3 : Kp (∀ W A3 c3, (Kd.int .u8).C W A3 zs.length zs → zs.length ≤ c3 → (Kd.int .u8).C W A4 bd.length bd → Calls Tryz.prog 50 #[.slice (some ⟨W.heap.size, 0, none⟩) 2 2] (W.alloc (.cells #[.slice A3 zs.length c3, .slice A4 bd.length c4] 22)) (Gives (Kd.slice 5 (Kd.int .u8)) (zs ++ bd) (W.alloc (.cells #[.slice A3 zs.length c3, .slice A4 bd.length c4] 22)))) := ⟨fun W A3 c3 h hc h4 => by
    have hrows := lit_rows (w := W) (T := 22) [.slice A3 zs.length c3, .slice A4 bd.length c4] [zs, bd] rfl (by show 2 ≤ 9223372036854775807; decide) (fun j hj => by
      have hj' : j < 2 := hj
      match j, hj' with
      | 0, _ => exact ⟨A3, c3, rfl, hc, h⟩
      | 1, _ => exact ⟨A4, c4, rfl, hc4, h4⟩)
    have hfl : [zs, bd].flatten = zs ++ bd := by simp
    have hcat := concatB_calls _ 2 [zs, bd] _ hrows (by rw [hfl, List.length_append]; omega)
    rw [hfl] at hcat
    exact hcat⟩
  have HY := Kp.mk hys
  have HZ := Kp.mk hzs
  clear HC2 HM2 hys hzs
  have f3 := blk_cell Hg4.out 3
  go_wp2_with (fail)
  refine gs_ (H1.out _ HC2b.out) HS4 ?_
  intro A5 c5 w5 hc5 hcm5 HC5 HM5 HB5 HS5
  go_wp2_with (fail)
  refine gs_ (H2.out _ _ _ HC5.out hc5) HS5 ?_
  intro A6 c6 w6 hc6 hcm6 HC6 HM6 HB6 HS6
  have HC4c := Kp.mk (Kd.C_below (Kd.C_below HC4.out HB5.out) HB6.out)
  have HSa := Kp.mk (HS6.out.alloc (.cells #[.slice A6 zs.length c6, .slice A4 bd.length c4] 22))
  go_wp2_with (fail)
  refine gs_ (H3.out _ _ _ HC6.out hc6 HC4c.out) HSa ?_
  intro A7 c7 w7 hc7 hcm7 HC7 HM7 HB7 HS7
  go_wp2
  go_ret2
  have h7 := HM7.out
  rw [List.length_append] at h7
  exact ⟨_, _, rfl, (by rw [← HWR.out, HY.out, HZ.out]; obtain ⟨v', hv, hR⟩ := h7; exact ⟨v', hv, Kd.R_lower hR HSa.out.size⟩), er_none _ _ _, HS7.out.below⟩
end Go.Proofs.YtlkneoednkhleaaGreatDoor
