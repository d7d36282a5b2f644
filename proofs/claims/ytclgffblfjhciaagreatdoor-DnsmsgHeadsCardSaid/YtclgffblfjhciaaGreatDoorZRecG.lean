/-
  Package record: data, WriteRecord, where a record may be.
-/
import Derived.Test.YtclgffblfjhciaaGreatDoorZRecF
import Derived.Deep.RegionHeld3
namespace Go.Proofs.YtclgffblfjhciaaGreatDoor
open Go.RowKit Go.Proofs.YtclgffblfjhciaaGreatDoorW.PrintWords
set_option linter.unusedVariables false
set_option linter.unusedSimpArgs false
set_option maxRecDepth 100000
set_option maxHeartbeats 1000000

/-- A record's bytes. -/
def Rec.wire (r : Rec) : List Int := Qu.wire ⟨r.name, r.typ, r.cls⟩ ++ be32 r.ttl ++ be16 r.body.length ++ r.body
theorem ad_l_len (a : Ad) : a.l.length = 16 := rfl
theorem body_len (r : Rec) (h : r.right = true) : r.body.length ≤ 1016 := by
  unfold Rec.right at h
  simp only [Bool.and_eq_true, decide_eq_true_eq] at h
  have h1 := nameW_len r.tgt h.2.1
  unfold Rec.body
  split
  · omega
  · rw [List.length_append, List.length_take, ad_l_len]
    omega
theorem ad_C {w : World} {g : Nat} {rn : L} {rt rc rl : Int} {v6 : Bool} {b : Nat → Int} {rtg : L} {v : Value} (h : w.heap[g]? = some (.cells #[.string (mkB rn), .int .i64 rt, .int .i64 rc, .int .u32 rl, .bool v6, .int .u8 (b 0), .int .u8 (b 1), .int .u8 (b 2), .int .u8 (b 3), .int .u8 (b 4), .int .u8 (b 5), .int .u8 (b 6), .int .u8 (b 7), .int .u8 (b 8), .int .u8 (b 9), .int .u8 (b 10), .int .u8 (b 11), .int .u8 (b 12), .int .u8 (b 13), .int .u8 (b 14), .int .u8 (b 15), .string (mkB rtg), v] 37 (0, 0))) (z : Nat) (hz : z ≤ 16) :
    (Kd.int .u8).C w (some ⟨g, 5, none⟩) z ([b 0, b 1, b 2, b 3, b 4, b 5, b 6, b 7, b 8, b 9, b 10, b 11, b 12, b 13, b 14, b 15].take z) := by
  have hl : ([b 0, b 1, b 2, b 3, b 4, b 5, b 6, b 7, b 8, b 9, b 10, b 11, b 12, b 13, b 14, b 15].take z).length = z := by
    rw [List.length_take]
    show min z 16 = z
    omega
  have h2 := C_blk (o := 5) (k := .u8) (xs := [b 0, b 1, b 2, b 3, b 4, b 5, b 6, b 7, b 8, b 9, b 10, b 11, b 12, b 13, b 14, b 15].take z) h (by rw [hl]; omega) (fun j hj => by
    rw [hl] at hj
    have e : ([b 0, b 1, b 2, b 3, b 4, b 5, b 6, b 7, b 8, b 9, b 10, b 11, b 12, b 13, b 14, b 15].take z).getD j 0 = [b 0, b 1, b 2, b 3, b 4, b 5, b 6, b 7, b 8, b 9, b 10, b 11, b 12, b 13, b 14, b 15].getD j 0 := by
      rw [List.getD_eq_getElem?_getD, List.getD_eq_getElem?_getD, List.getElem?_take, if_pos hj]
    rw [e]
    have hj16 : j < 16 := by omega
    match j, hj16 with
    | 0, _ | 1, _ | 2, _ | 3, _ | 4, _ | 5, _ | 6, _ | 7, _ | 8, _ | 9, _ | 10, _ | 11, _ | 12, _ | 13, _ | 14, _ | 15, _ => rfl
    | _ + 16, h => exact absurd h (by omega))
  rw [hl] at h2
  exact h2
theorem data_calls (r : Rec) (A : Option Addr) (c : Nat) (w : World) (hE : Env w) (h : (Kd.int .u8).C w A r.data.length r.data) (hc : r.data.length ≤ c) (hr : r.right = true) (ht : r.tgt.length < 4294967281) :
    Calls Tryz.prog 57 #[.agg (recA r (.slice A r.data.length c))] w (Gives bytesK r.body w) := by
  have hrr := hr
  unfold Rec.right at hrr
  simp only [Bool.and_eq_true, decide_eq_true_eq] at hrr
  obtain ⟨-, htr, hdl, -⟩ := hrr
  obtain ⟨rn, rt, rc, rl, ⟨v6, b⟩, rtg, rd⟩ := r
  dsimp only at htr hdl ht hc h
  have HTR := Kp.mk htr
  have HS := Kp.mk ((St.start hE).alloc (.cells #[.string (mkB rn), .int .i64 rt, .int .i64 rc, .int .u32 rl, .bool v6, .int .u8 (b 0), .int .u8 (b 1), .int .u8 (b 2), .int .u8 (b 3), .int .u8 (b 4), .int .u8 (b 5), .int .u8 (b 6), .int .u8 (b 7), .int .u8 (b 8), .int .u8 (b 9), .int .u8 (b 10), .int .u8 (b 11), .int .u8 (b 12), .int .u8 (b 13), .int .u8 (b 14), .int .u8 (b 15), .string (mkB rtg), .slice A rd.length c] 37))
  have hg := heap_new w (.cells #[.string (mkB rn), .int .i64 rt, .int .i64 rc, .int .u32 rl, .bool v6, .int .u8 (b 0), .int .u8 (b 1), .int .u8 (b 2), .int .u8 (b 3), .int .u8 (b 4), .int .u8 (b 5), .int .u8 (b 6), .int .u8 (b 7), .int .u8 (b 8), .int .u8 (b 9), .int .u8 (b 10), .int .u8 (b 11), .int .u8 (b 12), .int .u8 (b 13), .int .u8 (b 14), .int .u8 (b 15), .string (mkB rtg), .slice A rd.length c] 37)
  have Hg := Kp.mk hg
  have HC := Kp.mk (Kd.C_below h HS.out.below)
  obtain ⟨bd, hbd⟩ : ∃ bd, Rec.body ⟨rn, rt, rc, rl, ⟨v6, b⟩, rtg, rd⟩ = bd := ⟨_, rfl⟩
  have hbe : bd = if rt = 5 then nameW rtg else [b 0, b 1, b 2, b 3, b 4, b 5, b 6, b 7, b 8, b 9, b 10, b 11, b 12, b 13, b 14, b 15].take (szT rt).toNat ++ rd := hbd.symm
  rw [hbd]
  show Calls Tryz.prog 57 #[.agg #[.string (mkB rn), .int .i64 rt, .int .i64 rc, .int .u32 rl, .bool v6, .int .u8 (b 0), .int .u8 (b 1), .int .u8 (b 2), .int .u8 (b 3), .int .u8 (b 4), .int .u8 (b 5), .int .u8 (b 6), .int .u8 (b 7), .int .u8 (b 8), .int .u8 (b 9), .int .u8 (b 10), .int .u8 (b 11), .int .u8 (b 12), .int .u8 (b 13), .int .u8 (b 14), .int .u8 (b 15), .string (mkB rtg), .slice A rd.length c]] w (Gives bytesK bd w)
  have HBE := Kp.mk hbe
  clear hE h hr htr hbd hbe
  by_cases h5 : rt = 5
  · subst h5
    have hb := HBE.out
    rw [if_pos rfl] at hb
    subst hb
    clear hg
    go_enter Tryz.func57, Tryz.ntmps57
    go_wp2_with (fail)
    refine g2sn_ (writeB_good rtg _ HS.out.env ht HTR.out) HS ?_
    intro A1 c1 w1 hc1 hcm1 HC1 HM1 HB1 HS1
    go_wp2
    go_ret
    exact ⟨_, rfl, (by obtain ⟨v', hv, hR⟩ := HM1.out; exact ⟨v', hv, Kd.R_lower hR (by simp)⟩), HS1.out.below⟩
  · have b5 : (rt == 5) = false := by simpa using h5
    have hb := HBE.out
    rw [if_neg h5] at hb
    have hz : szT rt = 0 ∨ szT rt = 4 ∨ szT rt = 16 := by unfold szT; split; exact .inr (.inr rfl); split; exact .inr (.inl rfl); exact .inl rfl
    obtain ⟨z, hzz⟩ : ∃ z : Nat, szT rt = (z : Int) ∧ z ≤ 16 := by
      rcases hz with h | h | h
      · exact ⟨0, h, by decide⟩
      · exact ⟨4, h, by decide⟩
      · exact ⟨16, h, by decide⟩
    obtain ⟨hz1, hz2⟩ := hzz
    rw [hz1, Int.toNat_natCast] at hb
    have HCA := Kp.mk (ad_C hg z hz2)
    obtain ⟨ys, hys⟩ : ∃ ys, [b 0, b 1, b 2, b 3, b 4, b 5, b 6, b 7, b 8, b 9, b 10, b 11, b 12, b 13, b 14, b 15].take z = ys := ⟨_, rfl⟩
    have hyl : ys.length = z := by rw [← hys, List.length_take]; show min z 16 = z; omega
    rw [hys] at HCA hb
    have HSZ : Kp (∀ W, Calls Tryz.prog 86 #[.int .i64 rt] W fun e w' => e = .returned (.int .i64 (z : Int)) ∧ W = w') := ⟨fun W => hz1 ▸ sz_calls rt W⟩
    subst hyl
    have hrows := lit_rows (w := w.alloc (.cells #[.string (mkB rn), .int .i64 rt, .int .i64 rc, .int .u32 rl, .bool v6, .int .u8 (b 0), .int .u8 (b 1), .int .u8 (b 2), .int .u8 (b 3), .int .u8 (b 4), .int .u8 (b 5), .int .u8 (b 6), .int .u8 (b 7), .int .u8 (b 8), .int .u8 (b 9), .int .u8 (b 10), .int .u8 (b 11), .int .u8 (b 12), .int .u8 (b 13), .int .u8 (b 14), .int .u8 (b 15), .string (mkB rtg), .slice A rd.length c] 37)) (T := 24) [.slice (some ⟨w.heap.size, 5, none⟩) ys.length 16, .slice A rd.length c] [ys, rd] rfl (by show 2 ≤ 9223372036854775807; decide) (fun j hj => by
      have hj' : j < 2 := hj
      match j, hj' with
      | 0, _ => exact ⟨_, 16, rfl, hz2, HCA.out⟩
      | 1, _ => exact ⟨A, c, rfl, hc, HC.out⟩)
    have hz8 : (w.alloc (.cells #[.string (mkB rn), .int .i64 rt, .int .i64 rc, .int .u32 rl, .bool v6, .int .u8 (b 0), .int .u8 (b 1), .int .u8 (b 2), .int .u8 (b 3), .int .u8 (b 4), .int .u8 (b 5), .int .u8 (b 6), .int .u8 (b 7), .int .u8 (b 8), .int .u8 (b 9), .int .u8 (b 10), .int .u8 (b 11), .int .u8 (b 12), .int .u8 (b 13), .int .u8 (b 14), .int .u8 (b 15), .string (mkB rtg), .slice A rd.length c] 37)).heap.size = w.heap.size + 1 := by simp
    rw [hz8] at hrows
    have hfl : [ys, rd].flatten = ys ++ rd := by simp
    have hcat := concatB_calls _ 2 [ys, rd] _ (Kd.C_below hrows (below_drew (Below.refl _ _))) (by rw [hfl, List.length_append]; omega)
    rw [hfl] at hcat
    have HCAT := Kp.mk hcat
    have HSd2 := Kp.mk ((HS.out.alloc (.cells #[.slice (some ⟨w.heap.size, 5, none⟩) ys.length 16, .slice A rd.length c] 24)).step (below_drew (Below.refl _ _)))
    have F1 := Kp.mk (show (((w.alloc (.cells #[.string (mkB rn), .int .i64 rt, .int .i64 rc, .int .u32 rl, .bool v6, .int .u8 (b 0), .int .u8 (b 1), .int .u8 (b 2), .int .u8 (b 3), .int .u8 (b 4), .int .u8 (b 5), .int .u8 (b 6), .int .u8 (b 7), .int .u8 (b 8), .int .u8 (b 9), .int .u8 (b 10), .int .u8 (b 11), .int .u8 (b 12), .int .u8 (b 13), .int .u8 (b 14), .int .u8 (b 15), .string (mkB rtg), .slice A rd.length c] 37)).alloc (.cells #[.slice (some ⟨w.heap.size, 5, none⟩) ys.length 16, .slice A rd.length c] 24)).drew).cell? ⟨w.heap.size, 1, none⟩ = some (.int .i64 rt) from (World.cell?_alloc_lt _ _ ⟨w.heap.size, 1, none⟩ (by simp)).trans (blk_cell hg 1))
    have F22 := Kp.mk (show (((w.alloc (.cells #[.string (mkB rn), .int .i64 rt, .int .i64 rc, .int .u32 rl, .bool v6, .int .u8 (b 0), .int .u8 (b 1), .int .u8 (b 2), .int .u8 (b 3), .int .u8 (b 4), .int .u8 (b 5), .int .u8 (b 6), .int .u8 (b 7), .int .u8 (b 8), .int .u8 (b 9), .int .u8 (b 10), .int .u8 (b 11), .int .u8 (b 12), .int .u8 (b 13), .int .u8 (b 14), .int .u8 (b 15), .string (mkB rtg), .slice A rd.length c] 37)).alloc (.cells #[.slice (some ⟨w.heap.size, 5, none⟩) ys.length 16, .slice A rd.length c] 24)).drew).cell? ⟨w.heap.size, 22, none⟩ = some (.slice A rd.length c) from (World.cell?_alloc_lt _ _ ⟨w.heap.size, 22, none⟩ (by simp)).trans (blk_cell hg 22))
    have HB := Kp.mk hb
    clear hrows hz8 hfl hcat
    have t1 : _ = some (Value.int .i64 rt) := blk_cell hg 1
    have t22 : _ = some (Value.slice A rd.length c) := blk_cell hg 22
    have z0 : (0 : Int) ≤ (ys.length : Int) := by omega
    have z1 : (ys.length : Int) ≤ 16 := by omega
    clear hg hz hz1 hys hb HBE
    go_enter Tryz.func57, Tryz.ntmps57
    go_wp2_with (fail)
    go_region_held3 (fun w' => w'.cell? ⟨w.heap.size, 1, none⟩ = some (.int .i64 rt) ∧ w'.cell? ⟨w.heap.size, 22, none⟩ = some (.slice A rd.length c)) (first | go_keep | exact ⟨F1.out, F22.out⟩ | exact ⟨pw_cell_below HB9.out F1.out, pw_cell_below HB9.out F22.out⟩)
      (first
        | (go_at_call 86; (with_reducible refine (HSZ.out _).mono ?_); rintro e3 w3 ⟨rfl, rfl⟩)
        | (go_at_call 58; (with_reducible refine gs_ HCAT.out HSd2 ?_); intro A9 c9 w9 hc9 hcm9 HC9 HM9 HB9 HS9))
    go_wp2
    go_ret
    have h9 := HM9.out
    rw [List.length_append] at h9
    exact ⟨_, rfl, (by rw [HB.out]; obtain ⟨v', hv, hR⟩ := h9; exact ⟨v', hv, Kd.R_lower hR (by have := HSd2.out.size; exact this)⟩), HS9.out.below⟩
end Go.Proofs.YtclgffblfjhciaaGreatDoor
