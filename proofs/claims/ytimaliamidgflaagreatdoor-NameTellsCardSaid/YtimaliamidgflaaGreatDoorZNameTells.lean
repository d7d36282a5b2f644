/-
  The law NameTells: any text as a name, its labels, and as it is written, or why not; a name in any bytes, or why none; whether any is under any: the walk.
-/
import Derived.Test.YtimaliamidgflaaGreatDoorGr
import Derived.Test.YtimaliamidgflaaGreatDoorZOwn
import Derived.Test.YtimaliamidgflaaGreatDoorGd
namespace Go.Proofs.YtimaliamidgflaaGreatDoor
open Go.RowKit Go.Proofs.YtimaliamidgflaaGreatDoorW.PrintWords Go.Proofs.YtimaliamidgflaaGreatDoor.P
set_option maxRecDepth 100000
set_option maxHeartbeats 1000000

theorem failV_T (er : Er) : failV er = .agg #[.int .i64 (failT er).1, .int .i64 (failT er).2.1, .bool (failT er).2.2] := by cases er <;> rfl
theorem readE_num (xs : List Int) (a n : Int) (ls : List L) : readE xs a n ls = .none ∨ (readE xs a n ls).num ≠ 0 := by
  unfold readE
  split
  · exact .inr (by simp [Er.num])
  · split
    · exact .inr (by simp [Er.num])
    · split
      · exact .inr (by simp [Er.num])
      · exact .inl rfl
theorem leapE_num (xs : List Int) (a b : Int) : leapE xs a b = .none ∨ (leapE xs a b).num ≠ 0 := by
  unfold leapE
  split
  · exact .inr (by simp [Er.num])
  · split
    · exact .inr (by simp [Er.num])
    · exact .inl rfl
theorem readF_num (k : Nat) (xs : List Int) (a b e : Int) (ls : List L) : (readF k xs a b e ls).2.2 = .none ∨ (readF k xs a b e ls).2.2.num ≠ 0 := by
  induction k generalizing a b e ls with
  | zero => exact .inl rfl
  | succ k ih =>
    rw [readF]
    split
    · exact .inr (by simp [Er.num])
    · split
      · exact .inl rfl
      · split
        · split
          · exact ih ..
          · exact readE_num ..
        · split
          · split
            · exact ih ..
            · exact leapE_num ..
          · exact .inr (by simp [Er.num])
/-- The two reads answer alike. -/
theorem both_read (xs : List Int) (hx : Byts xs) (hl : xs.length ≤ 1000) (a : Int) (u1 : a ≤ 9223372036854775807) : ∃ (nm : L) (en : Int) (er : Er), (er = .none ∨ er.num ≠ 0) ∧
    (∀ (A : Option Addr) (c : Nat) (w : World), (Kd.int .u8).C w A xs.length xs → xs.length ≤ c → c ≤ 9223372036854775807 → Env w → Calls Tryz.prog 6 #[.slice A xs.length c, .int .i64 a] w (Gives3 Kd.string (Kd.int .i64) erK (mkB nm) en er w)) ∧
    ∀ (A : Option Addr) (c : Nat) (w : World), (Kd.int .u8).C w A xs.length xs → xs.length ≤ c → Calls Tryz.prog 7 #[.slice A xs.length c, .int .i64 a] w fun e w' => e = .returned (.tuple #[.string (mkB nm), .int .i64 en, failV er]) ∧ Below w.heap.size w w' := by
  by_cases h0 : a < 0
  · exact ⟨[], 0, .code 1, .inr (by simp [Er.num]), fun A c w _ _ _ _ => read_neg A _ c a w h0, fun A c w h hc => stockaderef12_Read.calls 0 A c xs a _ _ _ _ _ w h hc (ref_read_neg xs a 0 h0)⟩
  · obtain ⟨k, rfl⟩ := Int.eq_ofNat_of_zero_le (show 0 ≤ a by omega)
    obtain ⟨nm, en, er, hr⟩ : ∃ nm en er, readF (((k : Nat) : Int).toNat * 300 + 301) xs k k (-1) [] = (nm, en, er) := ⟨_, _, _, rfl⟩
    have hn := readF_num (((k : Nat) : Int).toNat * 300 + 301) xs k k (-1) []
    rw [hr] at hn
    have hr2 := ref_read xs hx (by omega) k nm en er (by rw [Int.toNat_natCast] at hr; exact hr)
    refine ⟨nm, en, er, hn, fun A c w h hc hcm hE => read_calls A c xs k w nm en er h hx hc hcm hE (by omega) (by omega) u1 hr, fun A c w h hc => ?_⟩
    rw [failV_T]
    exact stockaderef12_Read.calls _ A c xs k _ _ _ _ _ w h hc hr2
/-- The two writes answer alike. -/
theorem both_write (s : ByteArray) (hs : s.size ≤ 600) : ∃ (bs : List Int) (er : Er), (er = .none ∨ er.num ≠ 0) ∧ (∀ w, Env w → Calls Tryz.prog 8 #[.string s] w (Gives2 bytesK erK bs er w)) ∧ ∀ w, Calls Tryz.prog 9 #[.string s] w (GivesT bs er w) := by
  by_cases hr : rightL s.data.toList = true
  · exact ⟨_, .none, .inl rfl, fun w hE => write_good s w hE (by omega) hr, fun w => rwrite_good s w (by omega) hr⟩
  · have hr' : rightL s.data.toList = false := by simpa using hr
    exact ⟨[], .code 13, .inr (by simp [Er.num]), fun w hE => write_bad s w hE (by omega) hr', fun w => rwrite_bad s w (by omega) hr'⟩
theorem nameTells_walk (w : World) (s : ByteArray) (hs : s.size ≤ 9223372036854775807) (z : ByteArray) (hz : z.size ≤ 9223372036854775807) (A : Option Addr) (n c : Nat) (xs : List Int) (hC : (Kd.int .u8).C w A n xs) (hc : n ≤ c) (hm : c ≤ 9223372036854775807) (hx : Byts xs)
    (a : Int) (l1 : -9223372036854775808 ≤ a) (u1 : a ≤ 9223372036854775807) (hE : Env w) :
    Calls Tryz.prog 3 #[.string s, .string z, .slice A n c, .int .i64 a] w fun e w' => e = .returned (.bool true) ∧ Below w.heap.size w w' := by
  have HS := Kp.mk (St.start hE)
  obtain rfl := (C_len hC).1
  have HC := Kp.mk hC
  have HX := Kp.mk hx
  clear hE hC hx
  by_cases g1 : 600 < s.size
  · have b1 : decide ((600 : Int) < (s.size : Int)) = true := by simp; omega
    go_enter Tryz.func3, Tryz.ntmps3
    go_wp2_with (fail)
    refine b_ (awake12_calls _ HS.out.env) HS ?_
    intro w1 HB1 HS1
    go_wp2
    go_ret
    exact ⟨rfl, HS1.out.below⟩
  have b1 : decide ((600 : Int) < (s.size : Int)) = false := by simp; omega
  by_cases g2 : 600 < z.size
  · have b2 : decide ((600 : Int) < (z.size : Int)) = true := by simp; omega
    go_enter Tryz.func3, Tryz.ntmps3
    go_wp2_with (fail)
    refine b_ (awake12_calls _ HS.out.env) HS ?_
    intro w1 HB1 HS1
    go_wp2
    go_ret
    exact ⟨rfl, HS1.out.below⟩
  have b2 : decide ((600 : Int) < (z.size : Int)) = false := by simp; omega
  by_cases g3 : 1000 < xs.length
  · have b3 : decide ((1000 : Int) < (xs.length : Int)) = true := by simp; omega
    go_enter Tryz.func3, Tryz.ntmps3
    go_wp2_with (fail)
    refine b_ (awake12_calls _ HS.out.env) HS ?_
    intro w1 HB1 HS1
    go_wp2
    go_ret
    exact ⟨rfl, HS1.out.below⟩
  have b3 : decide ((1000 : Int) < (xs.length : Int)) = false := by simp; omega
  go_enter Tryz.func3, Tryz.ntmps3
  go_wp2_with (fail)
  refine (own_calls A xs.length c xs w HC.out (by omega)).mono ?_
  rintro e w1 ⟨rfl, hb, ho⟩
  have HB1 := Kp.mk hb
  have HO1 := Kp.mk ho
  have HS1 := Kp.mk (HS.out.step hb)
  clear hb ho
  obtain ⟨nm, en, er, hen, hr1, hr2⟩ := both_read xs HX.out (by omega) a u1
  obtain ⟨bs, er2, hen2, hw1, hw2⟩ := both_write s (by omega)
  have HN := Kp.mk hen
  have HN2 := Kp.mk hen2
  have HR1 := Kp.mk hr1
  have HR2 := Kp.mk hr2
  have HW1 := Kp.mk hw1
  have HW2 := Kp.mk hw2
  obtain ⟨x1, x2, x3, hfv⟩ : ∃ x1 x2 x3, failV er = .agg #[.int .i64 x1, .int .i64 x2, .bool x3] := ⟨_, _, _, failV_T er⟩
  obtain ⟨y1, y2, y3, hfw⟩ : ∃ y1 y2 y3, failV er2 = .agg #[.int .i64 y1, .int .i64 y2, .bool y3] := ⟨_, _, _, failV_T er2⟩
  have HFV := Kp.mk hfv
  have HFW := Kp.mk hfw
  clear hen hen2 hr1 hr2 hw1 hw2 hfv hfw
  go_wp2_with (fail)
  refine gsie_ (HR1.out _ _ _ (HO1.out.C (by omega)) (by omega) (by omega) HS1.out.env) HS1 ?_
  intro v2 w2 HM2 HB2 HS2
  have HE2 := Kp.mk (erK.K_of_M HM2.out)
  have HO2 := Kp.mk (HO1.out.grow HB2.out)
  go_wp2_with (fail)
  refine b_ (HR2.out A c _ (Kd.C_below HC.out HS2.out.below) hc) HS2 ?_
  intro w3 HB3 HS3
  rw [HFV.out]
  have HBf := Kp.mk ((Below.refl w3.heap.size w3).alloc (Nat.le_refl _) (.cells #[.int .i64 x1, .int .i64 x2, .bool x3] 31))
  have HX3 := Kp.mk (heap_new w3 (.cells #[.int .i64 x1, .int .i64 x2, .bool x3] 31))
  have HE3 := Kp.mk (erK.K_below HBf.out (erK.K_below HB3.out HE2.out))
  have HO3 := Kp.mk ((HO2.out.grow HB3.out).grow HBf.out)
  have HS3a := Kp.mk (HS3.out.step HBf.out)
  go_wp2_with (fail)
  refine g2_ (HW1.out _ HS3a.out.env) HS3a ?_
  intro v4 v4e w4 HM4 HM4e HB4 HS4
  obtain ⟨A4, c4, rfl, hc4, hC4⟩ := slice_open (bytesK.K_of_M HM4.out)
  have HC4 := Kp.mk hC4
  have HF4 := Kp.mk (erK.K_of_M HM4e.out)
  have HE4 := Kp.mk (erK.K_below HB4.out HE3.out)
  have HO4 := Kp.mk (HO3.out.grow HB4.out)
  have HX4 := Kp.mk ((HB4.out.block _ (heap_lt HX3.out)).trans HX3.out)
  clear hC4
  go_wp2_with (fail)
  refine (HW2.out _).mono ?_
  rintro e5 w5 ⟨v5, rfl, hm5, hb5⟩
  obtain ⟨A5, c5, rfl⟩ := Kd.R_slice hm5
  have HC5 := Kp.mk (R_C hm5).1
  have hc5 := (R_C hm5).2
  have HS5 := Kp.mk (HS4.out.step hb5)
  have HC4a := Kp.mk (Kd.C_below HC4.out hb5)
  have HF5 := Kp.mk (erK.K_below hb5 HF4.out)
  have HE5 := Kp.mk (erK.K_below hb5 HE4.out)
  have HO5 := Kp.mk (HO4.out.grow hb5)
  have HX5 := Kp.mk ((hb5.block _ (heap_lt HX4.out)).trans HX4.out)
  have HBg := Kp.mk ((Below.refl w5.heap.size w5).alloc (Nat.le_refl _) (.cells #[.int .i64 y1, .int .i64 y2, .bool y3] 31))
  have HY5 := Kp.mk (heap_new w5 (.cells #[.int .i64 y1, .int .i64 y2, .bool y3] 31))
  have HS5a := Kp.mk (HS5.out.step HBg.out)
  clear hm5 hb5
  rw [HFW.out]
  go_wp2_with (fail)
  refine b_ (awake12_calls _ HS5a.out.env) HS5a ?_
  intro w6 HB6a HS6
  have HB6 := Kp.mk (below_step HBg.out HB6a.out)
  have HX6 := Kp.mk ((HB6.out.block _ (heap_lt HX5.out)).trans HX5.out)
  have HY6 := Kp.mk ((HB6a.out.block _ (heap_lt HY5.out)).trans HY5.out)
  have q0 := blk_cell HX6.out 0
  have q1 := blk_cell HX6.out 1
  have q2 := blk_cell HX6.out 2
  have HC4b := Kp.mk (Kd.C_below HC4a.out HB6.out)
  have HC5b := Kp.mk (Kd.C_below HC5.out HB6.out)
  have HF6 := Kp.mk (erK.K_below HB6.out HF5.out)
  have HE6 := Kp.mk (erK.K_below HB6.out HE5.out)
  have HO6 := Kp.mk (HO5.out.grow HB6.out)
  go_wp2_with (fail)
  rw [← HFV.out]
  refine b_ (same_calls er _ _ HE6.out HS6.out.env HN.out) HS6 ?_
  intro w7 HB7 HS7
  have HY7 := Kp.mk ((HB7.out.block _ (heap_lt HY6.out)).trans HY6.out)
  clear q0 q1 q2
  have HC4c := Kp.mk (Kd.C_below HC4b.out HB7.out)
  have HC5c := Kp.mk (Kd.C_below HC5b.out HB7.out)
  have HF7 := Kp.mk (erK.K_below HB7.out HF6.out)
  have HO7 := Kp.mk (HO6.out.grow HB7.out)
  go_wp2_with (fail)
  refine (stockadehelp_Bytes.calls A4 c4 bs A5 c5 bs true _ HC4c.out hc4 HC5c.out hc5 (by simp [stockadehelp_Bytes.f])).mono ?_
  rintro e8 w8 ⟨rfl, hd⟩
  have HB8 := Kp.mk hd.below
  have HY8 := Kp.mk ((HB8.out.block _ (heap_lt HY7.out)).trans HY7.out)
  have q0 := blk_cell HY8.out 0
  have q1 := blk_cell HY8.out 1
  have q2 := blk_cell HY8.out 2
  have HS8 := Kp.mk (HS7.out.step HB8.out)
  have HF8 := Kp.mk (erK.K_below HB8.out HF7.out)
  have HO8 := Kp.mk (HO7.out.grow HB8.out)
  clear hd
  go_wp2_with (fail)
  rw [← HFW.out]
  refine b_ (same_calls er2 _ _ HF8.out HS8.out.env HN2.out) HS8 ?_
  intro w9 HB9 HS9
  clear q0 q1 q2
  have HO9 := Kp.mk (HO8.out.grow HB9.out)
  go_wp2_with (fail)
  refine b_ (right_calls s _ HS9.out.env (by omega)) HS9 ?_
  intro w10 HB10 HS10
  have HO10 := Kp.mk (HO9.out.grow HB10.out)
  go_wp2_with (fail)
  refine b_ (stockaderef12_Right.calls 3000 s _ _ (ref_right 3000 s (by omega) (by omega))) HS10 ?_
  intro w11 HB11 HS11
  have HO11 := Kp.mk (HO10.out.grow HB11.out)
  go_wp2_with (fail)
  refine gs_ (labels_calls s _ HS11.out.env (by omega)) HS11 ?_
  intro A12 c12 w12 hc12 hcm12 HC12 HM12 HB12 HS12
  have HO12 := Kp.mk (HO11.out.grow HB12.out)
  go_wp2_with (fail)
  refine (stockaderef12_Labels.calls 1000 s _ _ (ref_labels 1000 s (by omega) (by omega))).mono ?_
  rintro e13 w13 ⟨v13, rfl, hm13, hb13⟩
  obtain ⟨A13, c13, rfl⟩ := Kd.R_slice hm13
  have HC13 := Kp.mk (R_C hm13).1
  have HC12a := Kp.mk (Kd.C_below HC12.out hb13)
  have HS13 := Kp.mk (HS12.out.step hb13)
  have HO13 := Kp.mk (HO12.out.grow hb13)
  clear hm13 hb13
  go_wp2_with (fail)
  have hpl := plains_calls _ _ _ _ c12 c13 _ _ HC12a.out HC13.out
  rw [List.length_map] at hpl
  refine b_ hpl HS13 ?_
  clear hpl
  intro w14 HB14 HS14
  have HO14 := Kp.mk (HO13.out.grow HB14.out)
  go_wp2_with (fail)
  refine q_ (under_calls s z _ (by omega) (by omega)) ?_
  go_wp2_with (fail)
  refine (stockaderef12_Under.calls s z _ _ (ref_under s z (by omega) (by omega))).mono ?_
  rintro e15 w15 ⟨rfl, hd⟩
  have HB15 := Kp.mk hd.below
  have HS15 := Kp.mk (HS14.out.step HB15.out)
  have HO15 := Kp.mk (HO14.out.grow HB15.out)
  clear hd
  go_wp2_with (fail)
  refine b_ (kept_calls w.heap.size A xs.length c xs _ HO15.out (Kd.C_below HC.out HS15.out.below) (by omega)) HS15 ?_
  intro w16 HB16 HS16
  go_wp2
  go_ret
  exact ⟨rfl, HS16.out.below⟩
end Go.Proofs.YtimaliamidgflaaGreatDoor
