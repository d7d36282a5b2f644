/-
  Package octets: number, U16, by their contracts.
-/
import Derived.Test.YtlkneoednkhleaaGreatDoorYOctC
namespace Go.Proofs.YtlkneoednkhleaaGreatDoor
open Go.RowKit Go.Proofs.YtlkneoednkhleaaGreatDoorW.PrintWords
set_option linter.unusedVariables false
set_option linter.unusedSimpArgs false
set_option maxRecDepth 100000
set_option maxHeartbeats 1000000

/-- The number of some bytes, the highest first. -/
def be (xs : List Int) : Int := xs.foldl (fun v c => v * 256 + c) 0
theorem be_snoc (xs : List Int) (c : Int) : be (xs ++ [c]) = be xs * 256 + c := by simp [be]
theorem be_from : ∀ (xs : List Int) (v : Int) (m : Nat), 0 ≤ v → v < 256 ^ m → Byts xs → 0 ≤ xs.foldl (fun v c => v * 256 + c) v ∧ xs.foldl (fun v c => v * 256 + c) v < 256 ^ (m + xs.length) := by
  intro xs
  induction xs with
  | nil => intro v m h0 h1 _; exact ⟨h0, h1⟩
  | cons c xs ih =>
    intro v m h0 h1 h
    have h2 := h c (by simp)
    have h3 := ih (v * 256 + c) (m + 1) (by omega) (by rw [Int.pow_succ]; omega) (fun x hx => h x (List.mem_cons_of_mem _ hx))
    rw [List.foldl_cons, List.length_cons, show m + (xs.length + 1) = m + 1 + xs.length by omega]
    exact h3
theorem be_range (xs : List Int) (h : Byts xs) : 0 ≤ be xs ∧ be xs < 256 ^ xs.length := by
  have h1 := be_from xs 0 0 (by omega) (by decide) h
  rw [Nat.zero_add] at h1
  exact h1
theorem or_step (v c : Int) (h0 : 0 ≤ v) (h1 : v < 16777216) (h2 : 0 ≤ c) (h3 : c ≤ 255) : bits .or .u32 (v * 256 % 4294967296) (c % 4294967296) = v * 256 + c := by
  rw [Int.emod_eq_of_lt (by omega) (by omega), Int.emod_eq_of_lt (by omega) (by omega), u32_or _ _ (by omega) (by omega) (by omega) (by omega), nat_join 8 _ _ (by omega) (by omega)]
  omega
def numV (xs : List Int) (a n : Int) : Int := if askE xs.length a n = .none then be ((xs.drop a.toNat).take n.toNat) else 0

theorem number_calls (A : Option Addr) (c : Nat) (xs : List Int) (a n : Int) (w : World) (h : (Kd.int .u8).C w A xs.length xs) (hx8 : Byts xs) (hc : xs.length ≤ c) (_ : c ≤ 9223372036854775807) (hE : Env w) (hl : xs.length ≤ 140737488355328) (h1 : -9223372036854775808 ≤ a) (h2 : a ≤ 9223372036854775807) (hn : n ≤ 4) (hn0 : 0 < n) :
    Calls Tryz.prog 79 #[.slice A xs.length c, .int .i64 a, .int .i64 n] w (Gives2 (Kd.int .u32) erK (numV xs a n) (partE xs.length a n) w) := by
  have HE := Kp.mk hE
  clear hE
  have HX8 := Kp.mk hx8
  clear hx8
  by_cases hx : askE xs.length a n = .none
  · unfold numV partE
    rw [if_pos hx, hx]
    have ha : ¬ (a < 0 ∨ n < 0) := fun hh => by unfold askE at hx; rw [if_pos hh] at hx; cases hx
    have hb : ¬ (0 < n ∧ (xs.length : Int) - n < a) := fun hh => by unfold askE at hx; rw [if_neg ha, if_pos hh] at hx; cases hx
    have HX := Kp.mk hx
    clear hx
    obtain ⟨ad, rfl⟩ : ∃ ad, A = some ad := by
      rcases A with _ | ad
      · have := (C_nil0 h).1; omega
      · exact ⟨ad, rfl⟩
    have hs : wrap64 (a + n) = a + n := by unfold wrap64; omega
    have hmid := Kd.C_mid (c := c) (lo := a.toNat) (hi := (a + n).toNat) h (by omega) (by omega) hc
    rw [if_neg (by omega)] at hmid
    have hle : ((xs.drop a.toNat).take n.toNat).length = (a + n).toNat - a.toNat := by rw [List.length_take, List.length_drop]; omega
    have hC : (Kd.int .u8).C w (some (ad.add a.toNat)) ((a + n).toNat - a.toNat) ((xs.drop a.toNat).take n.toNat) := by
      have e1 : (xs.take (a + n).toNat).drop a.toNat = (xs.drop a.toNat).take n.toNat := by rw [List.drop_take]; congr 1; omega
      rw [e1, hle] at hmid
      simpa [Kd.int, Kd.scalar] using hmid
    have hY : Byts ((xs.drop a.toNat).take n.toNat) := fun x hx => HX8.out x (List.mem_of_mem_drop (List.mem_of_mem_take hx))
    obtain ⟨ys, hys⟩ : ∃ ys, (xs.drop a.toNat).take n.toNat = ys := ⟨_, rfl⟩
    rw [hys] at hC hY hle ⊢
    have hm4 : ys.length ≤ 4 := by omega
    have HC := Kp.mk hC
    have HY := Kp.mk hY
    have HL := Kp.mk hle
    clear h hmid hC hle hys hY
    go_enter Tryz.func79, Tryz.ntmps79
    go_wp2_with (fail)
    refine (ask_calls _ _ _ _ _ _ hl (by omega)).mono ?_
    rintro e w1 ⟨⟨v, rfl, hv⟩, rfl⟩
    rw [HX.out] at hv
    obtain rfl := er_open_none (erK.K_of_M hv)
    clear hv
    go_wp2_with (fail)
    go_loop [9, 28] (fun v i => ∃ k : Nat, k ≤ ys.length ∧ i = .int .i64 k ∧ v = .int .u32 (be (ys.take k))) (fun _ i => ys.length - (intOf i).toNat)
    case atStart => exact ⟨0, Nat.zero_le _, rfl, rfl⟩
    case round =>
      obtain ⟨k, hk, rfl, rfl⟩ := hrel
      rw [← HL.out]
      by_cases hlt : k < ys.length
      · obtain ⟨ad', e1, hcell⟩ := at_nat HC.out k (by rw [← HL.out]; omega)
        cases e1
        have hr := be_range _ (fun x hx => HY.out x (List.mem_of_mem_take hx) : Byts (ys.take k))
        have hlk : (ys.take k).length = k := by rw [List.length_take]; omega
        have hy := HY.out _ (getD_mem ys 0 k hlt)
        have ht := take_snoc ys 0 k hlt
        have HR := Kp.mk hr
        have HT := Kp.mk ht
        have HK := Kp.mk hlk
        clear hr ht hlk
        go_wp2
        have hp : (256 : Int) ^ k ≤ 256 ^ 3 := by
          have : (256 : Nat) ^ k ≤ 256 ^ 3 := Nat.pow_le_pow_right (by decide) (by omega)
          exact Int.ofNat_le.2 this
        have h6 := HR.out
        rw [HK.out] at h6
        refine ⟨⟨k + 1, by omega, by go_num, ?_⟩, by simp [intOf]; omega⟩
        rw [HT.out, be_snoc, show ys[k] = ys.getD k 0 by simp [List.getD_eq_getElem?_getD, hlt], or_step _ _ h6.1 (by omega) hy.1 hy.2]
      · have ht : ys.take k = ys := List.take_of_length_le (by omega)
        rw [ht]
        have HK : k = ys.length := by omega
        subst HK
        have HR := Kp.mk (be_range ys HY.out)
        clear ht hlt
        go_wp2
        go_ret2
        exact ⟨_, _, rfl, rfl, er_none _ _ _, Below.refl _ _⟩
  · unfold numV partE
    rw [if_neg hx]
    rcases askE_cases xs.length a n with h0 | h0 | h0
    · exact absurd h0 hx
    all_goals
      rw [h0]
      have HX := Kp.mk h0
      clear hx h0
      go_enter Tryz.func79, Tryz.ntmps79
      go_wp2_with (fail)
      refine (ask_calls _ _ _ _ _ _ hl (by omega)).mono ?_
      rintro e w1 ⟨⟨v, rfl, hv⟩, rfl⟩
      rw [HX.out] at hv
      have HV := Kp.mk hv
      obtain rfl := er_open_code (erK.K_of_M hv)
      clear hv
      go_wp2_with (fail)
      refine (short_calls _ _ _ _ HV.out HE.out (by first | exact .inr (.inl rfl) | exact .inr (.inr rfl)) h1 h2).mono ?_
      rintro e w1 ⟨v, rfl, hm, hb⟩
      have HM := Kp.mk hm
      have HB := Kp.mk hb
      clear hm hb
      go_wp2
      go_ret2
      exact ⟨_, _, rfl, rfl, HM.out, HB.out⟩

theorem u16_range (xs : List Int) (a : Int) (h : Byts xs) : 0 ≤ numV xs a 2 ∧ numV xs a 2 ≤ 65535 := by
  unfold numV
  split
  · have h1 := be_range ((xs.drop a.toNat).take (2 : Int).toNat) (fun x hx => h x (List.mem_of_mem_drop (List.mem_of_mem_take hx)))
    have h2 : ((xs.drop a.toNat).take (2 : Int).toNat).length ≤ 2 := by rw [List.length_take]; exact Nat.min_le_left _ _
    have h3 : (256 : Nat) ^ ((xs.drop a.toNat).take (2 : Int).toNat).length ≤ 256 ^ 2 := Nat.pow_le_pow_right (by decide) h2
    have h4 : (256 : Int) ^ ((xs.drop a.toNat).take (2 : Int).toNat).length ≤ 256 ^ 2 := Int.ofNat_le.2 h3
    omega
  · omega
theorem u16_calls (A : Option Addr) (c : Nat) (xs : List Int) (a : Int) (w : World) (h : (Kd.int .u8).C w A xs.length xs) (hx8 : Byts xs) (hc : xs.length ≤ c) (hcm : c ≤ 9223372036854775807) (hE : Env w) (hl : xs.length ≤ 140737488355328) (h1 : -9223372036854775808 ≤ a) (h2 : a ≤ 9223372036854775807) :
    Calls Tryz.prog 41 #[.slice A xs.length c, .int .i64 a] w (Gives2 (Kd.int .i64) erK (numV xs a 2) (partE xs.length a 2) w) := by
  have H := Kp.mk (number_calls A c xs a 2 w h hx8 hc hcm hE hl h1 h2 (by omega) (by omega))
  have hr := u16_range xs a hx8
  clear h hx8 hE
  go_enter Tryz.func41, Tryz.ntmps41
  go_wp2_with (fail)
  refine H.out.mono ?_
  rintro e w1 ⟨v1, v2, rfl, hm1, hm2, hb⟩
  obtain rfl : v1 = .int .u32 (numV xs a 2) := List.singleton_inj.1 hm1
  have HM := Kp.mk hm2
  have HB := Kp.mk hb
  clear hm1 hm2 hb
  go_wp2
  go_ret2
  exact ⟨_, _, rfl, rfl, HM.out, HB.out⟩
end Go.Proofs.YtlkneoednkhleaaGreatDoor
