/-
  The statements of layer 14: awake answers true.
-/
import Derived.Test.YtclgffblfjhciaaGreatDoorZDmE
import Derived.Test.YtclgffblfjhciaaGreatDoorGs
namespace Go.Proofs.YtclgffblfjhciaaGreatDoor
open Go.RowKit Go.Proofs.YtclgffblfjhciaaGreatDoorW.PrintWords
set_option linter.unusedVariables false
set_option linter.unusedSimpArgs false
set_option maxRecDepth 100000
set_option maxHeartbeats 2000000

/-- A head with nothing behind it. -/
def bare14 (N M : Nat) : List Int := [(N : Int) / 256, (N : Int) % 256, (M : Int) / 256, (M : Int) % 256, 0, 0, 0, 0, 0, 0, 0, 0]
def headOf (N M : Nat) : Msg := ⟨N, (M : Int) / 32768 == 1, (M : Int) / 2048 % 16, (M : Int) % 16, (M : Int) / 16 % 128, [], [], [], []⟩
theorem num_lit (pre ys post : List Int) (a n : Int) (ha : a = pre.length) (hn : n = ys.length) : numV (pre ++ (ys ++ post)) a n = be ys := by
  subst ha hn
  unfold numV
  rw [askE_ok (by omega) (by omega) (by simp only [List.length_append]; omega), if_pos rfl, Int.toNat_natCast, Int.toNat_natCast, List.drop_left' rfl, List.take_left' rfl]
theorem parse_bare (N M : Nat) (h1 : N ≤ 65535) (h2 : M ≤ 65535) : parseM (bare14 N M) = (headOf N M, .none) := by
  have hl : (bare14 N M).length = 12 := rfl
  have n0 : numV (bare14 N M) 0 2 = N := (num_lit [] [(N : Int) / 256, (N : Int) % 256] [(M : Int) / 256, (M : Int) % 256, 0, 0, 0, 0, 0, 0, 0, 0] 0 2 rfl rfl).trans (by rw [be_two]; omega)
  have n2 : numV (bare14 N M) 2 2 = M := (num_lit [(N : Int) / 256, (N : Int) % 256] [(M : Int) / 256, (M : Int) % 256] [0, 0, 0, 0, 0, 0, 0, 0] 2 2 rfl rfl).trans (by rw [be_two]; omega)
  have n4 : cntM (bare14 N M) 4 = 0 := by unfold cntM; rw [show numV (bare14 N M) 4 2 = be [0, 0] from num_lit [(N : Int) / 256, (N : Int) % 256, (M : Int) / 256, (M : Int) % 256] [0, 0] [0, 0, 0, 0, 0, 0] 4 2 rfl rfl]; rfl
  have n6 : cntM (bare14 N M) 6 = 0 := by unfold cntM; rw [show numV (bare14 N M) 6 2 = be [0, 0] from num_lit [(N : Int) / 256, (N : Int) % 256, (M : Int) / 256, (M : Int) % 256, 0, 0] [0, 0] [0, 0, 0, 0] 6 2 rfl rfl]; rfl
  have n8 : cntM (bare14 N M) 8 = 0 := by unfold cntM; rw [show numV (bare14 N M) 8 2 = be [0, 0] from num_lit [(N : Int) / 256, (N : Int) % 256, (M : Int) / 256, (M : Int) % 256, 0, 0, 0, 0] [0, 0] [0, 0] 8 2 rfl rfl]; rfl
  have n10 : cntM (bare14 N M) 10 = 0 := by unfold cntM; rw [show numV (bare14 N M) 10 2 = be [0, 0] from num_lit [(N : Int) / 256, (N : Int) % 256, (M : Int) / 256, (M : Int) % 256, 0, 0, 0, 0, 0, 0] [0, 0] [] 10 2 rfl rfl]; rfl
  have hb : bodyR (bare14 N M) 0 0 0 0 = (([], [], [], []), 12, .none) := by
    simp [bodyR, bodyR1, bodyR2, bodyR3, qsR, rsR]
  unfold parseM
  rw [n4, n6, n8, n10, hl, hb, if_neg (by decide), if_neg (by decide), if_neg (by decide), if_neg (by decide), if_neg (by decide)]
  unfold headM headOf
  rw [n0, n2]
theorem bits_head (N M : Nat) (h2 : M ≤ 65535) : (headOf N M).bits = M := by
  unfold Msg.bits headOf
  dsimp only
  by_cases h : (M : Int) / 32768 = 1
  · rw [if_pos (by simpa using h)]; omega
  · rw [if_neg (by simpa using h)]; omega
theorem write_bare (N M : Nat) (h1 : N ≤ 65535) (h2 : M ≤ 65535) : writeM (headOf N M) = (bare14 N M, .none) := by
  have hw : (headOf N M).wire = bare14 N M := by
    unfold Msg.wire Msg.head
    rw [bits_head N M h2]
    simp [headOf, Msg.all, be16, bare14]
  have hok : (headOf N M).headOk = true := by
    unfold Msg.headOk headOf inB Msg.all
    simp only [Bool.and_eq_true, decide_eq_true_eq, List.length_nil, List.append_nil]
    omega
  unfold writeM
  rw [if_neg (by rw [hok]; simp), hw]
  rfl
theorem bare_byts (N M : Nat) (h1 : N ≤ 65535) (h2 : M ≤ 65535) : Byts (bare14 N M) := by
  intro x hx
  simp only [bare14, List.mem_cons, List.not_mem_nil, or_false] at hx
  rcases hx with rfl | rfl | rfl | rfl | rfl | rfl | rfl | rfl | rfl | rfl | rfl | rfl <;> omega
theorem C_nil {α : Type} {d : Kd α} (w : World) (A : Option Addr) : d.C w A 0 [] := ⟨rfl, Nat.zero_le _, fun h => absurd h (Nat.lt_irrefl _)⟩
/-- Write, at a head with nothing behind it. -/
theorem write_bare_calls (N M : Nat) (c5 c6 c7 c8 : Nat) (A5 A6 A7 A8 : Option Addr) (w : World) (h1 : N ≤ 65535) (h2 : M ≤ 65535) (hE : Env w) :
    Calls Tryz.prog 39 #[.agg (msgA (headOf N M) (.slice A5 0 c5) (.slice A6 0 c6) (.slice A7 0 c7) (.slice A8 0 c8))] w (Gives2 bytesK erK (bare14 N M) .none w) :=
  write_calls (headOf N M) A5 A6 A7 A8 c5 c6 c7 c8 w (bare14 N M) .none hE (C_nil _ _) (Nat.zero_le _) (C_nil _ _) (Nat.zero_le _) (C_nil _ _) (Nat.zero_le _) (C_nil _ _) (Nat.zero_le _)
    (fun q hq => absurd hq (by simp [headOf])) (fun r hr => absurd hr (by simp [Msg.all, headOf])) (by show (0 + 0 + 0) * 96 ≤ 140737488355328; decide) (by show 0 ≤ 140737488355328; decide) (write_bare N M h1 h2)
theorem awake14_calls (w : World) (hE : Env w) : Calls Tryz.prog 35 #[] w fun e w' => e = .returned (.bool true) ∧ Below w.heap.size w w' := by
  have HS := Kp.mk (St.start hE)
  have HWR := Kp.mk (write_bare_calls 7 32768 0 0 0 0 none none none none w (by decide) (by decide) hE)
  have hb : bare14 7 32768 = [0, 7, 128, 0, 0, 0, 0, 0, 0, 0, 0, 0] := by decide
  have hh : headOf 7 32768 = ⟨7, true, 0, 0, 0, [], [], [], []⟩ := rfl
  have HPM := Kp.mk (parse_bare 7 32768 (by decide) (by decide))
  have HBY := Kp.mk (bare_byts 7 32768 (by decide) (by decide))
  rw [hb] at HWR HPM HBY
  rw [hh] at HWR HPM
  clear hE hb hh
  go_enter Tryz.func35, Tryz.ntmps35
  go_wp2_with (fail)
  refine g2sn_ HWR.out HS ?_
  intro A1 c1 w1 hc1 hcm1 HC1 HM1 HB1 HS1
  go_wp2_with (fail)
  refine (parse_calls A1 c1 _ w1 _ _ HC1.out HBY.out hc1 hcm1 HS1.out.env HPM.out).mono ?_
  rintro e2 w2 ⟨v5, v6, v7, v8, v, rfl, hR, hM, hB⟩
  obtain rfl := er_open_none (erK.K_of_M hM)
  obtain ⟨A5, c5, rfl⟩ := Kd.R_slice hR.qs
  obtain ⟨A6, c6, rfl⟩ := Kd.R_slice hR.an
  obtain ⟨A7, c7, rfl⟩ := Kd.R_slice hR.au
  obtain ⟨A8, c8, rfl⟩ := Kd.R_slice hR.ex
  have HS2 := Kp.mk (HS1.out.step hB)
  have HZ2 := Kp.mk (HS2.out.below.alloc HS2.out.size (.cells #[.int .i64 0, .bool false, .int .i64 0, .int .i64 0, .int .i64 0, .slice none 0 0, .slice none 0 0, .slice none 0 0, .slice none 0 0] 71))
  clear hR hM hB
  go_wp2_with (with_reducible refine st_blk (w0 := w) (base := w.heap.size) rfl 71 (.tmp 3) (.tmp 13) rfl rfl w2.heap.size _ rfl rfl ⟨heap_new _ _⟩ (by kernel_rfl) (by kernel_rfl) (by kernel_rfl) HZ2 HS2.out.size ?_)
  intro w3 Hg3 HO3 HB3 hs3
  have d0 := blk_cell Hg3.out 0
  have d1 := blk_cell Hg3.out 1
  clear hs3 HO3
  go_wp2
  go_ret
  exact ⟨rfl, HB3.out⟩
end Go.Proofs.YtclgffblfjhciaaGreatDoor
