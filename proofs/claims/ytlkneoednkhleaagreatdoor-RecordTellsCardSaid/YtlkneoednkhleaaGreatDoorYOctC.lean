/-
  Package octets: short, number, U16, Part, by their contracts.
-/
import Derived.Test.YtlkneoednkhleaaGreatDoorYOctB
import Derived.Test.YtlkneoednkhleaaGreatDoorYClone
namespace Go.Proofs.YtlkneoednkhleaaGreatDoor
open Go.RowKit Go.Proofs.YtlkneoednkhleaaGreatDoorW.PrintWords
set_option linter.unusedVariables false
set_option linter.unusedSimpArgs false
set_option maxRecDepth 100000
set_option maxHeartbeats 1000000

theorem is_calls (x : Er) (v : Value) (k : Int) (w : World) (hv : erK.K w x [v]) (hk : k ≠ 0) (b : Bool) (hb : (x.num == k) = b) (hc : x ≠ .code 0) :
    Calls Tryz.prog 59 #[v, .iface 36 (.int .i64 k)] w fun e w' => e = .returned (.bool b) ∧ w = w' := by
  rcases x with _ | c | ⟨a, c⟩
  · obtain rfl := er_open_none hv
    have : b = false := by rw [← hb]; simp only [Er.num]; simpa using fun h => hk h.symm
    subst this
    exact is_nil k w
  · obtain rfl := er_open_code hv
    exact is_e c k b hb w
  · obtain ⟨p, rfl, hp⟩ := er_open_fault hv
    exact is_f p c k b hb w (blk_cell hp 1)

/-- octets.short at what octets.ask answers. -/
theorem short_calls (a : Int) (x : Er) (v : Value) (w : World) (hv : erK.M w w.heap.size (fun _ => True) x [v]) (hE : Env w) (hx : x = .none ∨ x = .code 1 ∨ x = .code 3) (h1 : -9223372036854775808 ≤ a) (h2 : a ≤ 9223372036854775807) :
    Calls Tryz.prog 116 #[.int .i64 a, v] w (Gives erK (shortE a x) w) := by
  have HV := Kp.mk hv
  have HE := Kp.mk hE
  clear hv hE
  rcases hx with rfl | rfl | rfl
  · go_enter Tryz.func116, Tryz.ntmps116
    go_wp2_with (fail)
    refine (is_calls _ _ 3 _ (erK.K_of_M HV.out) (by decide) false rfl (by decide)).mono ?_
    rintro e w1 ⟨rfl, rfl⟩
    go_wp2
    go_ret
    exact ⟨_, rfl, HV.out, Below.refl _ _⟩
  · go_enter Tryz.func116, Tryz.ntmps116
    go_wp2_with (fail)
    refine (is_calls _ _ 3 _ (erK.K_of_M HV.out) (by decide) false rfl (by decide)).mono ?_
    rintro e w1 ⟨rfl, rfl⟩
    go_wp2
    go_ret
    exact ⟨_, rfl, HV.out, Below.refl _ _⟩
  · go_enter Tryz.func116, Tryz.ntmps116
    go_wp2_with (fail)
    refine (is_calls _ _ 3 _ (erK.K_of_M HV.out) (by decide) true rfl (by decide)).mono ?_
    rintro e w1 ⟨rfl, rfl⟩
    go_wp2_with (fail)
    refine (deeper_calls _ _ _ _ (erK.K_of_M HV.out) HE.out (by simpa [Er.place] using h1) (by simpa [Er.place] using h2)).mono ?_
    rintro e w1 ⟨v1, rfl, hm, hb⟩
    have HM := Kp.mk hm
    have HB := Kp.mk hb
    clear hm hb
    go_wp2
    go_ret
    exact ⟨_, rfl, HM.out, HB.out⟩

theorem askE_cases (len a n : Int) : askE len a n = .none ∨ askE len a n = .code 1 ∨ askE len a n = .code 3 := by
  unfold askE
  split
  · exact .inr (.inl rfl)
  · split
    · exact .inr (.inr rfl)
    · exact .inl rfl

/-- What is asked of bytes: each lies in its range. -/
def Byts (xs : List Int) : Prop := ∀ x ∈ xs, 0 ≤ x ∧ x ≤ 255
/-- Part: some bytes; why not. -/
def partE (len a n : Int) : Er := shortE a (askE len a n)
def partV (xs : List Int) (a n : Int) : List Int := if askE xs.length a n = .none then (xs.drop a.toNat).take n.toNat else []

theorem part_calls (A : Option Addr) (c : Nat) (xs : List Int) (a n : Int) (w : World) (h : (Kd.int .u8).C w A xs.length xs) (hc : xs.length ≤ c) (_ : c ≤ 9223372036854775807) (hE : Env w) (hl : xs.length ≤ 140737488355328) (h1 : -9223372036854775808 ≤ a) (h2 : a ≤ 9223372036854775807) (hn : n ≤ 9223372036854775807) :
    Calls Tryz.prog 83 #[.slice A xs.length c, .int .i64 a, .int .i64 n] w (Gives2 bytesK erK (partV xs a n) (partE xs.length a n) w) := by
  have HE := Kp.mk hE
  clear hE
  by_cases hx : askE xs.length a n = .none
  · unfold partV partE
    rw [if_pos hx, hx]
    have ha : ¬ (a < 0 ∨ n < 0) := fun hh => by unfold askE at hx; rw [if_pos hh] at hx; cases hx
    have hb : ¬ (0 < n ∧ (xs.length : Int) - n < a) := fun hh => by unfold askE at hx; rw [if_neg ha, if_pos hh] at hx; cases hx
    have HX := Kp.mk hx
    clear hx
    by_cases h0 : n = 0
    · subst h0
      go_enter Tryz.func83, Tryz.ntmps83
      go_wp2_with (fail)
      refine (ask_calls _ _ _ _ _ _ hl (by omega)).mono ?_
      rintro e w1 ⟨⟨v, rfl, hv⟩, rfl⟩
      rw [HX.out] at hv
      obtain rfl := er_open_none (erK.K_of_M hv)
      clear hv
      go_wp2
      go_ret2
      exact ⟨_, _, rfl, ⟨_, rfl, by simpa using Kd.R_nil _ _ _ _ _⟩, er_none _ _ _, Below.refl _ _⟩
    · obtain ⟨ad, rfl⟩ : ∃ ad, A = some ad := by
        rcases A with _ | ad
        · have := (C_nil0 h).1; omega
        · exact ⟨ad, rfl⟩
      have b0 : (n == 0) = false := by simpa using h0
      have hs : wrap64 (a + n) = a + n := by unfold wrap64; omega
      have hmid := Kd.C_mid (c := c) (lo := a.toNat) (hi := (a + n).toNat) h (by omega) (by omega) hc
      rw [if_neg (by omega)] at hmid
      have hle : ((xs.drop a.toNat).take n.toNat).length = (a + n).toNat - a.toNat := by rw [List.length_take, List.length_drop]; omega
      have hC : (Kd.int .u8).C w (some (ad.add a.toNat)) ((a + n).toNat - a.toNat) ((xs.drop a.toNat).take n.toNat) := by
        have e1 : (xs.take (a + n).toNat).drop a.toNat = (xs.drop a.toNat).take n.toNat := by rw [List.drop_take]; congr 1; omega
        rw [e1, hle] at hmid
        simpa [Kd.int, Kd.scalar] using hmid
      have HC := Kp.mk hC
      clear h hmid hC hle
      go_enter Tryz.func83, Tryz.ntmps83
      go_wp2_with (fail)
      refine (ask_calls _ _ _ _ _ _ hl (by omega)).mono ?_
      rintro e w1 ⟨⟨v, rfl, hv⟩, rfl⟩
      rw [HX.out] at hv
      obtain rfl := er_open_none (erK.K_of_M hv)
      clear hv
      go_wp2_with (fail)
      refine (cloneB_calls _ _ _ _ _ HC.out (by omega)).mono ?_
      rintro e w1 ⟨v, rfl, hm, hb⟩
      have HM := Kp.mk hm
      have HB := Kp.mk hb
      clear hm hb
      go_wp2
      go_ret2
      exact ⟨_, _, rfl, HM.out, er_none _ _ _, HB.out⟩
  · unfold partV partE
    rw [if_neg hx]
    rcases askE_cases xs.length a n with h0 | h0 | h0
    · exact absurd h0 hx
    all_goals
      rw [h0]
      have HX := Kp.mk h0
      clear hx h0
      go_enter Tryz.func83, Tryz.ntmps83
      go_wp2_with (fail)
      refine (ask_calls _ _ _ _ _ _ hl (by omega)).mono ?_
      rintro e w1 ⟨⟨v, rfl, hv⟩, rfl⟩
      rw [HX.out] at hv
      have HV := Kp.mk hv
      obtain rfl := er_open_code (erK.K_of_M hv)
      clear hv
      go_wp2_with (fail)
      refine (short_calls _ _ _ _ HV.out HE.out (by first | exact .inr (.inl rfl) | exact .inr (.inr rfl)) h1 h2).mono ?_
      rintro e w1 ⟨v, rfl, hm, hb⟩
      have HM := Kp.mk hm
      have HB := Kp.mk hb
      clear hm hb
      go_wp2
      go_ret2
      exact ⟨_, _, rfl, ⟨_, rfl, Kd.R_nil _ _ _ _ _⟩, HM.out, HB.out⟩
end Go.Proofs.YtlkneoednkhleaaGreatDoor
