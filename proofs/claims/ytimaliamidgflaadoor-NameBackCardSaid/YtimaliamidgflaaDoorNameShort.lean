/-
  The law NameShort: cut anywhere a name is too short, at the place of what is missing; other lengths are no labels: the walk.
-/
import Derived.Test.YtimaliamidgflaaDoorPlayN
import Derived.Test.YtimaliamidgflaaDoorNsA
import Derived.Test.YtimaliamidgflaaDoorAwake12
import Derived.Test.YtimaliamidgflaaDoorCx
namespace Go.Proofs.YtimaliamidgflaaDoor
open Go.RowKit Go.Proofs.YtimaliamidgflaaDoorW.PrintWords
set_option maxRecDepth 100000
set_option maxHeartbeats 1000000

theorem bare_calls (c : Int) (w : World) : Calls Tryd.prog 34 #[.int .i64 c] w fun e w' => e = .returned (failV (.code c)) ∧ Below w.heap.size w w' := by
  go_enter Tryd.func34, Tryd.ntmps34
  go_wp2
  go_returns
  exact ⟨rfl, (Below.refl _ _).alloc (Nat.le_refl _) _⟩
theorem wire_byts (ls : List L) (h : ∀ x ∈ ls, labelB (mkB x) = true) : Byts (wireOf ls ++ [0]) := by
  intro x hx
  rcases List.mem_append.1 hx with hx | hx
  · unfold wireOf at hx
    obtain ⟨y, hy, hxy⟩ := List.mem_flatten.1 hx
    obtain ⟨l, hl, rfl⟩ := List.mem_map.1 hy
    rcases List.mem_cons.1 hxy with rfl | hxy
    · have := h l hl
      rw [labelB, mkB_size] at this
      simp only [Bool.and_eq_true, decide_eq_true_eq] at this
      omega
    · obtain ⟨b, -, rfl⟩ := List.mem_map.1 hxy
      have := b.toNat_lt
      omega
  · rw [List.mem_singleton.1 hx]; decide
theorem take_byts {xs : List Int} (h : Byts xs) (k : Nat) : Byts (xs.take k) := fun x hx => h x (List.mem_of_mem_take hx)
theorem read_mid (v : Int) (h1 : 64 ≤ v) (h2 : v < 192) : readF ((0 : Int).toNat * 300 + 301) [v, 1, 2, 3] 0 0 (-1) [] = ([], 0, .fault 0 12) := by
  show readF (300 + 1) [v, 1, 2, 3] 0 0 (-1) [] = _
  rw [readF, if_neg (by simp)]
  have hg : ([v, 1, 2, 3] : List Int).getD (0 : Int).toNat 0 = v := rfl
  rw [hg, if_neg (by omega), if_neg (by omega), if_neg (by omega)]
theorem wire_at (ls : List L) (C a : Nat) (w : List Int) (hd : w.drop a = wireOf ls ++ [0]) (hC : C < w.length) (ha : a < C) : ∃ x r, ls = x :: r ∧ w.getD a 0 = (x.length : Int) ∧ w.drop (a + 1 + x.length) = wireOf r ++ [0] := by
  cases ls with
  | nil =>
    have := congrArg List.length hd
    rw [List.length_drop] at this
    simp [wireOf] at this
    omega
  | cons x r =>
    have hd' : w.drop a = (x.length : Int) :: (x.map nB ++ (wireOf r ++ [0])) := by rw [hd, wire_cons]; simp [nB]
    refine ⟨x, r, rfl, getD_drop w a _ _ hd', ?_⟩
    rw [← List.drop_drop, ← List.drop_drop, hd']
    simp
theorem nameShort_walk (s0 : ByteArray) (h0 : s0.size ≤ 9223372036854775807) (cut : Int) (l1 : -9223372036854775808 ≤ cut) (u1 : cut ≤ 9223372036854775807) (n : Int) (l2 : 0 ≤ n) (u2 : n ≤ 255) (w : World) (hE : Env w) :
    Calls Tryd.prog 12 #[.string s0, .int .i64 cut, .int .u8 n] w fun e w' => e = .returned (.bool true) ∧ Below w.heap.size w w' := by
  have HS := Kp.mk (St.start hE)
  clear hE
  obtain ⟨p, hp⟩ : ∃ p, playN s0.data.toList = p := ⟨_, rfl⟩
  have hpr := playN_right s0.data.toList
  rw [hp] at hpr
  obtain ⟨hpr, hpl⟩ := hpr
  have hps : (mkB p).size ≤ 60 := hpl
  have HP := Kp.mk (playname_calls s0 w h0)
  rw [hp] at HP
  clear hp
  have HWG := Kp.mk (fun w h => write_good (mkB p) w h (by omega) hpr)
  obtain ⟨hsz, hall⟩ := right_labels p hpr
  have hln := labels_len _ hall
  have hwl := wire_len (labelsOf p)
  rw [mkB_toList] at HWG
  obtain ⟨ls, hls⟩ : ∃ ls, labelsOf p = ls := ⟨_, rfl⟩
  rw [hls] at HWG hsz hall hln hwl
  obtain ⟨ws, hws⟩ : ∃ ws, wireOf ls ++ [0] = ws := ⟨_, rfl⟩
  have hbw := wire_byts ls hall
  rw [hws] at HWG hbw
  have hwn : ws.length = (wireOf ls).length + 1 := by rw [← hws]; simp
  have hw0 : 0 < ws.length := by omega
  have hw1 : ws.length ≤ 255 := by omega
  have HWS := Kp.mk hws
  have HALL := Kp.mk hall
  have HBW := Kp.mk hbw
  have HSZ := Kp.mk hsz
  have HLN := Kp.mk hln
  clear hpr hls hws hall hbw hsz hln hwl hwn
  obtain ⟨C, hC, hCe⟩ := umod cut ws.length (by omega) (by omega)
  have HCE := Kp.mk hCe
  clear hCe
  have hC2 : C < ws.length := by omega
  have HTL : Kp ((ws.take C).length = C) := ⟨by rw [List.length_take]; omega⟩
  have HRD : Kp (readF ((0 : Int).toNat * 300 + 301) (ws.take C) 0 0 (-1) [] = ([], 0, .fault ((cutAt ls C 0 : Nat) : Int) 3)) := ⟨by
    have h := read_cut ls [] (300 - ls.length) (ws.take C) C 0 0 (-1) HTL.out (Nat.zero_le _) (by rw [← HWS.out, List.drop_zero, Nat.sub_zero, List.take_append_of_le_length (by rw [← HWS.out, List.length_append, List.length_singleton] at hC2; omega)]) HALL.out HSZ.out
    have e : 300 - ls.length + ls.length + 1 = (0 : Int).toNat * 300 + 301 := by have := HLN.out; have := HSZ.out; simp; omega
    rw [e] at h
    exact h⟩
  obtain ⟨f, hf⟩ : ∃ f, cutAt ls C 0 = f := ⟨_, rfl⟩
  rw [hf] at HRD
  have HFE := Kp.mk hf
  have HRM := Kp.mk (read_mid (64 + n % 128) (by omega) (by omega))
  have HLB : Kp (Byts [64 + n % 128, 1, 2, 3]) := ⟨by intro x hx; simp at hx; rcases hx with rfl | rfl | rfl | rfl <;> omega⟩
  clear hf
  go_enter Tryd.func12, Tryd.ntmps12
  go_wp2_with (fail)
  refine b_ HP.out HS ?_
  intro w1 HB1 HS1
  go_wp2_with (fail)
  refine g2sn_ (HWG.out _ HS1.out.env) HS1 ?_
  intro A c w2 hc hcm HCC HM2 HB2 HS2
  go_wp2_with (fail)
  refine b_ (awake12_calls _ HS2.out.env) HS2 ?_
  intro w3 HB3 HS3
  go_wp2_with (fail)
  rw [HCE.out]
  go_loop [9] (fun v => ∃ (at_ : Nat) (r : List L), v = .int .i64 at_ ∧ at_ ≤ C ∧ Kp (ws.drop at_ = wireOf r ++ [0]) ∧ Kp (∀ x ∈ r, labelB (mkB x) = true) ∧ Kp (cutAt r C at_ = f)) (fun v => C - (intOf v).toNat)
  case atStart => exact ⟨0, ls, rfl, Nat.zero_le _, ⟨by rw [HWS.out]; rfl⟩, HALL, HFE⟩
  case round =>
    obtain ⟨at_, r, rfl, hac, HD, HA, HQ⟩ := hrel
    by_cases hlt : at_ < C
    · obtain ⟨x, r', rfl, hg, hd⟩ := wire_at r C at_ ws HD.out hC2 hlt
      have hx63 : x.length ≤ 63 := by
        have := HA.out x (by simp)
        rw [labelB, mkB_size] at this
        simp only [Bool.and_eq_true, decide_eq_true_eq] at this
        omega
      obtain ⟨ad, rfl, hcell⟩ := at_nat (Kd.C_below HCC.out HB3.out) at_ (by omega)
      rw [hg] at hcell
      have HDD := Kp.mk hd
      clear hg hd
      by_cases hle : at_ + 1 + x.length ≤ C
      · have HQ2 : Kp (cutAt r' C (at_ + 1 + x.length) = f) := ⟨by rw [← HQ.out, cutAt, if_pos hle]⟩
        have HA2 : Kp (∀ y ∈ r', labelB (mkB y) = true) := ⟨fun y hy => HA.out y (by simp [hy])⟩
        have bl : decide ((at_ : Int) + 1 + (x.length : Int) ≤ (C : Int)) = true := by simp; omega
        go_wp2
        go_round
        case rel => exact ⟨at_ + 1 + x.length, r', by go_num, hle, HDD, HA2, HQ2⟩
        case measure => simp [intOf]; omega
      · have hq2 : at_ = f := by rw [← HQ.out, cutAt, if_neg hle]
        subst hq2
        clear HQ
        have bl : decide ((at_ : Int) + 1 + (x.length : Int) ≤ (C : Int)) = false := by simp; omega
        have hC3 := Kd.C_take (m := C) (Kd.C_below HCC.out HB3.out) (by omega)
        rw [HTL.out] at hC3
        have HC3 := Kp.mk hC3
        clear hC3
        go_wp2_with (fail)
        have hrc := read_calls (some ad) c (ws.take C) 0 w3 _ _ _ (by rw [HTL.out]; exact HC3.out) (take_byts HBW.out C) (by rw [HTL.out]; omega) (by omega) HS3.out.env (by rw [HTL.out]; omega) (by decide) (by decide) HRD.out
        rw [HTL.out] at hrc
        refine gsie_ hrc HS3 ?_
        clear hrc
        intro v4 w4 HM4 HB4 HS4
        have HF4 := Kp.mk (erK.K_of_M HM4.out)
        have hlit := lit_bytes w4 w4.heap.size [64 + n % 128, 1, 2, 3] (Nat.le_refl _) (by simp)
        have HLC := Kp.mk (R_C hlit).1
        have HS5 := Kp.mk (HS4.out.alloc (.cells (([64 + n % 128, 1, 2, 3] : List Int).map (Value.int .u8)).toArray 5))
        clear hlit
        go_wp2_with (fail)
        refine gsie_ (read_calls _ _ [64 + n % 128, 1, 2, 3] 0 _ _ _ _ HLC.out HLB.out (by simp) (by decide) HS5.out.env (by simp) (by decide) (by decide) HRM.out) HS5 ?_
        intro v6 w6 HM6 HB6 HS6
        have HF6 := Kp.mk (erK.K_of_M HM6.out)
        go_wp2_with (fail)
        refine gsie_ (read_neg (some ad) ws.length c (-1 - (C : Int)) _ (by omega)) HS6 ?_
        intro v7 w7 HM7 HB7 HS7
        have HF7 := Kp.mk (erK.K_of_M HM7.out)
        go_wp2_with (fail)
        refine b_ (at_calls 3 _ _) HS7 ?_
        intro w8 HB8 HS8
        go_wp2_with (fail)
        have HC8 := Kp.mk (below_step (below_step (below_step ((Below.refl _ w4).alloc (Nat.le_refl _) (.cells (([64 + n % 128, 1, 2, 3] : List Int).map (Value.int .u8)).toArray 5)) HB6.out) HB7.out) HB8.out)
        refine b_ (same_calls _ _ _ (erK.K_below HC8.out HF4.out) HS8.out.env (.inr (by simp [Er.num]))) HS8 ?_
        intro w9 HB9 HS9
        go_wp2_with (fail)
        refine b_ (at_calls 12 _ _) HS9 ?_
        intro w10 HB10 HS10
        have HC10 := Kp.mk (below_step (below_step (below_step HB7.out HB8.out) HB9.out) HB10.out)
        go_wp2_with (fail)
        refine b_ (same_calls _ _ _ (erK.K_below HC10.out HF6.out) HS10.out.env (.inr (by simp [Er.num]))) HS10 ?_
        intro w11 HB11 HS11
        go_wp2_with (fail)
        refine b_ (bare_calls 1 _) HS11 ?_
        intro w12 HB12 HS12
        have HC12 := Kp.mk (below_step (below_step (below_step (below_step HB8.out HB9.out) HB10.out) HB11.out) HB12.out)
        go_wp2_with (fail)
        refine b_ (same_calls _ _ _ (erK.K_below HC12.out HF7.out) HS12.out.env (.inr (by simp [Er.num]))) HS12 ?_
        intro w13 HB13 HS13
        go_wp2
        go_ret
        exact ⟨rfl, HS13.out.below⟩
    · have hc0 : at_ = C := by omega
      have hq2 : at_ = f := by
        rw [← HQ.out]
        cases r with
        | nil => rfl
        | cons x r => rw [cutAt, if_neg (by omega)]
      subst hc0
      subst hq2
      clear HQ
      have bl : decide ((at_ : Int) < (at_ : Int)) = false := by simp
      have hC3 := Kd.C_take (m := at_) (Kd.C_below HCC.out HB3.out) (by omega)
      rw [HTL.out] at hC3
      have HC3 := Kp.mk hC3
      clear hC3
      go_wp2_with (fail)
      have hrc := read_calls A c (ws.take at_) 0 w3 _ _ _ (by rw [HTL.out]; exact HC3.out) (take_byts HBW.out at_) (by rw [HTL.out]; omega) (by omega) HS3.out.env (by rw [HTL.out]; omega) (by decide) (by decide) HRD.out
      rw [HTL.out] at hrc
      refine gsie_ hrc HS3 ?_
      clear hrc
      intro v4 w4 HM4 HB4 HS4
      have HF4 := Kp.mk (erK.K_of_M HM4.out)
      have hlit := lit_bytes w4 w4.heap.size [64 + n % 128, 1, 2, 3] (Nat.le_refl _) (by simp)
      have HLC := Kp.mk (R_C hlit).1
      have HS5 := Kp.mk (HS4.out.alloc (.cells (([64 + n % 128, 1, 2, 3] : List Int).map (Value.int .u8)).toArray 5))
      clear hlit
      go_wp2_with (fail)
      refine gsie_ (read_calls _ _ [64 + n % 128, 1, 2, 3] 0 _ _ _ _ HLC.out HLB.out (by simp) (by decide) HS5.out.env (by simp) (by decide) (by decide) HRM.out) HS5 ?_
      intro v6 w6 HM6 HB6 HS6
      have HF6 := Kp.mk (erK.K_of_M HM6.out)
      go_wp2_with (fail)
      refine gsie_ (read_neg A ws.length c (-1 - (at_ : Int)) _ (by omega)) HS6 ?_
      intro v7 w7 HM7 HB7 HS7
      have HF7 := Kp.mk (erK.K_of_M HM7.out)
      go_wp2_with (fail)
      refine b_ (at_calls 3 _ _) HS7 ?_
      intro w8 HB8 HS8
      go_wp2_with (fail)
      have HC8 := Kp.mk (below_step (below_step (below_step ((Below.refl _ w4).alloc (Nat.le_refl _) (.cells (([64 + n % 128, 1, 2, 3] : List Int).map (Value.int .u8)).toArray 5)) HB6.out) HB7.out) HB8.out)
      refine b_ (same_calls _ _ _ (erK.K_below HC8.out HF4.out) HS8.out.env (.inr (by simp [Er.num]))) HS8 ?_
      intro w9 HB9 HS9
      go_wp2_with (fail)
      refine b_ (at_calls 12 _ _) HS9 ?_
      intro w10 HB10 HS10
      have HC10 := Kp.mk (below_step (below_step (below_step HB7.out HB8.out) HB9.out) HB10.out)
      go_wp2_with (fail)
      refine b_ (same_calls _ _ _ (erK.K_below HC10.out HF6.out) HS10.out.env (.inr (by simp [Er.num]))) HS10 ?_
      intro w11 HB11 HS11
      go_wp2_with (fail)
      refine b_ (bare_calls 1 _) HS11 ?_
      intro w12 HB12 HS12
      have HC12 := Kp.mk (below_step (below_step (below_step (below_step HB8.out HB9.out) HB10.out) HB11.out) HB12.out)
      go_wp2_with (fail)
      refine b_ (same_calls _ _ _ (erK.K_below HC12.out HF7.out) HS12.out.env (.inr (by simp [Er.num]))) HS12 ?_
      intro w13 HB13 HS13
      go_wp2
      go_ret
      exact ⟨rfl, HS13.out.below⟩
end Go.Proofs.YtimaliamidgflaaDoor
