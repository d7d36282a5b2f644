/-
  Addresses and records that a law makes out of any: by their contracts.
-/
import Derived.Test.YtclgffblfjhciaaGreatDoorGs
import Derived.Test.YtclgffblfjhciaaGreatDoorZPlayN
import Derived.Deep.RegionHeld3
namespace Go.Proofs.YtclgffblfjhciaaGreatDoor
open Go.RowKit Go.Proofs.YtclgffblfjhciaaGreatDoorW.PrintWords
set_option linter.unusedVariables false
set_option linter.unusedSimpArgs false
set_option maxRecDepth 100000
set_option maxHeartbeats 1000000

/-- A number of two bytes out of any. -/
def portV (v : Int) : Int := wrap64 ((IntKind.u64.wrap v).tmod 65536)
theorem portV_range (v : Int) : 0 ≤ portV v ∧ portV v ≤ 65535 := by
  obtain ⟨N, hN, h⟩ := umod v 65536 (by decide) (by decide)
  unfold portV
  omega
theorem port_calls (v : Int) (w : World) : Calls Tryz.prog 51 #[.int .i64 v] w fun e w' => e = .returned (.int .i64 (portV v)) ∧ w = w' := by
  go_enter Tryz.func51, Tryz.ntmps51
  go_wp2
  go_ret
  exact ⟨rfl, rfl⟩
/-- An address of a version. -/
def playAd (a : Ad) (v6 : Bool) : Ad := ⟨v6, fun i => if v6 = false ∧ 4 ≤ i then 0 else a.b i⟩
def zeroTo (b : Nat → Int) (k : Nat) : Nat → Int := fun i => if 4 ≤ i ∧ i < k then 0 else b i
theorem zero_step (v : Bool) (f : Nat → Int) (k : Nat) (hk : k < 16) : (adC ⟨v, f⟩).toArray.setIfInBounds (1 + k) (.int .u8 0) = (adC ⟨v, fun i => if i = k then 0 else f i⟩).toArray := by
  match k, hk with
  | 0, _ | 1, _ | 2, _ | 3, _ | 4, _ | 5, _ | 6, _ | 7, _ | 8, _ | 9, _ | 10, _ | 11, _ | 12, _ | 13, _ | 14, _ | 15, _ => rfl
  | _ + 16, h => exact absurd h (by omega)
theorem adC_get (v : Bool) (f : Nat → Int) (k : Nat) (hk : k < 16) : (adC ⟨v, f⟩).toArray[1 + k]? = some (.int .u8 (f k)) := by
  match k, hk with
  | 0, _ | 1, _ | 2, _ | 3, _ | 4, _ | 5, _ | 6, _ | 7, _ | 8, _ | 9, _ | 10, _ | 11, _ | 12, _ | 13, _ | 14, _ | 15, _ => rfl
  | _ + 16, h => exact absurd h (by omega)
theorem zeroTo_succ (b : Nat → Int) (k : Nat) (hk : 4 ≤ k) : (fun i => if i = k then 0 else zeroTo b k i) = zeroTo b (k + 1) := by
  funext i
  unfold zeroTo
  split
  · rename_i h; subst h; rw [if_pos ⟨hk, Nat.lt_succ_self _⟩]
  · rename_i h
    by_cases h2 : 4 ≤ i ∧ i < k
    · rw [if_pos h2, if_pos ⟨h2.1, by omega⟩]
    · rw [if_neg h2, if_neg (by omega)]
theorem playAddr_calls (a : Ad) (v6 : Bool) (w : World) : Calls Tryz.prog 52 #[.agg #[.bool a.v6, .int .u8 (a.b 0), .int .u8 (a.b 1), .int .u8 (a.b 2), .int .u8 (a.b 3), .int .u8 (a.b 4), .int .u8 (a.b 5), .int .u8 (a.b 6), .int .u8 (a.b 7), .int .u8 (a.b 8), .int .u8 (a.b 9), .int .u8 (a.b 10), .int .u8 (a.b 11), .int .u8 (a.b 12), .int .u8 (a.b 13), .int .u8 (a.b 14), .int .u8 (a.b 15)], .bool v6] w fun e w' => e = .returned (.agg #[.bool v6, .int .u8 ((playAd a v6).b 0), .int .u8 ((playAd a v6).b 1), .int .u8 ((playAd a v6).b 2), .int .u8 ((playAd a v6).b 3), .int .u8 ((playAd a v6).b 4), .int .u8 ((playAd a v6).b 5), .int .u8 ((playAd a v6).b 6), .int .u8 ((playAd a v6).b 7), .int .u8 ((playAd a v6).b 8), .int .u8 ((playAd a v6).b 9), .int .u8 ((playAd a v6).b 10), .int .u8 ((playAd a v6).b 11), .int .u8 ((playAd a v6).b 12), .int .u8 ((playAd a v6).b 13), .int .u8 ((playAd a v6).b 14), .int .u8 ((playAd a v6).b 15)]) ∧ Below w.heap.size w w' := by
  obtain ⟨v, b⟩ := a
  have HB0 := Kp.mk (((Below.refl w.heap.size w).alloc (Nat.le_refl _) (.cells #[.bool v6, .int .u8 (b 0), .int .u8 (b 1), .int .u8 (b 2), .int .u8 (b 3), .int .u8 (b 4), .int .u8 (b 5), .int .u8 (b 6), .int .u8 (b 7), .int .u8 (b 8), .int .u8 (b 9), .int .u8 (b 10), .int .u8 (b 11), .int .u8 (b 12), .int .u8 (b 13), .int .u8 (b 14), .int .u8 (b 15)] 35)).alloc (by simp) (.cells (adC Ad.zero).toArray 35))
  cases v6
  · show Calls Tryz.prog 52 #[.agg #[.bool v, .int .u8 (b 0), .int .u8 (b 1), .int .u8 (b 2), .int .u8 (b 3), .int .u8 (b 4), .int .u8 (b 5), .int .u8 (b 6), .int .u8 (b 7), .int .u8 (b 8), .int .u8 (b 9), .int .u8 (b 10), .int .u8 (b 11), .int .u8 (b 12), .int .u8 (b 13), .int .u8 (b 14), .int .u8 (b 15)], .bool false] w fun e w' => e = .returned (.agg #[.bool false, .int .u8 (b 0), .int .u8 (b 1), .int .u8 (b 2), .int .u8 (b 3), .int .u8 0, .int .u8 0, .int .u8 0, .int .u8 0, .int .u8 0, .int .u8 0, .int .u8 0, .int .u8 0, .int .u8 0, .int .u8 0, .int .u8 0, .int .u8 0]) ∧ Below w.heap.size w w'
    go_enter Tryz.func52, Tryz.ntmps52
    go_wp2_with (fail)
    go_loopw [5] (fun i wr => ∃ k : Nat, 4 ≤ k ∧ k ≤ 16 ∧ i = .int .i64 k ∧ Kp (Below w.heap.size w wr) ∧ Kp (wr.heap[w.heap.size]? = some (.cells (adC ⟨false, zeroTo b k⟩).toArray 35 (0, 0))) ∧ Kp (wr.heap[w.heap.size + 1]? = some (.cells (adC Ad.zero).toArray 35 (0, 0)))) (fun i _ => 16 - (intOf i).toNat)
    case atStart =>
      obtain ⟨t0, t1, t2⟩ := two_new w (.cells #[.bool false, .int .u8 (b 0), .int .u8 (b 1), .int .u8 (b 2), .int .u8 (b 3), .int .u8 (b 4), .int .u8 (b 5), .int .u8 (b 6), .int .u8 (b 7), .int .u8 (b 8), .int .u8 (b 9), .int .u8 (b 10), .int .u8 (b 11), .int .u8 (b 12), .int .u8 (b 13), .int .u8 (b 14), .int .u8 (b 15)] 35) (.cells (adC Ad.zero).toArray 35)
      exact ⟨4, by decide, by decide, rfl, HB0, ⟨t0⟩, ⟨t1⟩⟩
    case round =>
      obtain ⟨k, hk4, hk, rfl, HB, Hk, Hr⟩ := hrel
      by_cases hlt : k < 16
      · have hc := (blk_cell Hk.out (1 + k)).trans (adC_get false (zeroTo b k) k hlt)
        have hf := blk_frozen Hk.out (1 + k)
        have hn := blk_put Hk.out (1 + k) (.int .u8 0) (zero_step false (zeroTo b k) k hlt)
        rw [zeroTo_succ b k hk4] at hn
        have HN := Kp.mk hn
        have HR := Kp.mk (blk_far (p := ⟨w.heap.size, 1 + k, none⟩) Hr.out (by simp) (.int .u8 0))
        have HB2 := Kp.mk (HB.out.setCell (p := ⟨w.heap.size, 1 + k, none⟩) (Nat.le_refl _) (.int .u8 0))
        have i1 : (k : Int) < 16 := by omega
        have i0 : (0 : Int) ≤ (k : Int) := by omega
        clear hn
        go_wp2
        exact ⟨⟨k + 1, by omega, by omega, by go_num, HB2, HN, HR⟩, by simp [intOf]; omega⟩
      · obtain rfl : k = 16 := by omega
        clear hlt
        go_wp2_with (first | (with_reducible refine ld_blk rfl 35 (.tmp 2) rfl w.heap.size rfl Hk Tryz.underlying35 rfl (by kernel_rfl) ?_) | (with_reducible refine st_blk (w0 := w) (base := w.heap.size) rfl 35 (.tmp 4) (.tmp 19) rfl rfl (w.heap.size + 1) _ rfl rfl Hr (by kernel_rfl) (by kernel_rfl) (by kernel_rfl) HB (Nat.le_succ _) ?_))
        intro w2 Hg2 HO2 HB2 hs2
        clear hs2
        go_wp2
        refine bodyPost_ret (results_cell_row rfl _ _ (w.heap.size + 1) _ _ (0, 0) _ rfl Hg2.out Tryz.underlying35 rfl (by kernel_rfl)) rfl ?_
        exact ⟨rfl, HB2.out⟩
  · show Calls Tryz.prog 52 #[.agg #[.bool v, .int .u8 (b 0), .int .u8 (b 1), .int .u8 (b 2), .int .u8 (b 3), .int .u8 (b 4), .int .u8 (b 5), .int .u8 (b 6), .int .u8 (b 7), .int .u8 (b 8), .int .u8 (b 9), .int .u8 (b 10), .int .u8 (b 11), .int .u8 (b 12), .int .u8 (b 13), .int .u8 (b 14), .int .u8 (b 15)], .bool true] w fun e w' => e = .returned (.agg #[.bool true, .int .u8 (b 0), .int .u8 (b 1), .int .u8 (b 2), .int .u8 (b 3), .int .u8 (b 4), .int .u8 (b 5), .int .u8 (b 6), .int .u8 (b 7), .int .u8 (b 8), .int .u8 (b 9), .int .u8 (b 10), .int .u8 (b 11), .int .u8 (b 12), .int .u8 (b 13), .int .u8 (b 14), .int .u8 (b 15)]) ∧ Below w.heap.size w w'
    go_enter Tryz.func52, Tryz.ntmps52
    go_wp2_with (fail)
    refine wp_loop_rounds 1 ?_
    rw [rounds_succ]
    go_wp2
    refine bodyPost_ret (results_cell_row rfl _ _ (w.heap.size + 1) _ _ (0, 0) _ rfl (two_new w (.cells #[.bool true, .int .u8 (b 0), .int .u8 (b 1), .int .u8 (b 2), .int .u8 (b 3), .int .u8 (b 4), .int .u8 (b 5), .int .u8 (b 6), .int .u8 (b 7), .int .u8 (b 8), .int .u8 (b 9), .int .u8 (b 10), .int .u8 (b 11), .int .u8 (b 12), .int .u8 (b 13), .int .u8 (b 14), .int .u8 (b 15)] 35) (.cells #[.bool true, .int .u8 (b 0), .int .u8 (b 1), .int .u8 (b 2), .int .u8 (b 3), .int .u8 (b 4), .int .u8 (b 5), .int .u8 (b 6), .int .u8 (b 7), .int .u8 (b 8), .int .u8 (b 9), .int .u8 (b 10), .int .u8 (b 11), .int .u8 (b 12), .int .u8 (b 13), .int .u8 (b 14), .int .u8 (b 15)] 35)).2.1 Tryz.underlying35 rfl (by kernel_rfl)) rfl ?_
    exact ⟨rfl, ((Below.refl w.heap.size w).alloc (Nat.le_refl _) _).alloc (by simp) _⟩
end Go.Proofs.YtclgffblfjhciaaGreatDoor
