/-
  The number in an error, as the statements ask for it.
-/
import Derived.Test.YtlkneoednkhleaaGreatDoorOctA
namespace Go.Proofs.YtlkneoednkhleaaGreatDoor
open Go.RowKit Go.Proofs.YtlkneoednkhleaaGreatDoorW.PrintWords
set_option linter.unusedVariables false
set_option linter.unusedSimpArgs false
set_option maxRecDepth 100000
set_option maxHeartbeats 1000000

theorem scode_calls (x : Er) (v : Value) (w : World) (hv : erK.K w x [v]) (hE : Env w) :
    Calls Tryz.prog 34 #[v] w fun e w' => e = .returned (.int .i64 x.num) ∧ Below w.heap.size w w' := by
  have HT := Kp.mk (env_alloc hE (.cells #[.int .i64 0] 36)).errT
  clear hE
  cases x with
  | none =>
    obtain rfl := er_open_none hv
    clear hv
    go_enter Tryz.func34, Tryz.ntmps34
    go_wp2_with (go_at_call 58; refine (as_nil _ _).mono ?_; rintro e w' ⟨rfl, rfl⟩)
    go_ret
    exact ⟨rfl, (Below.refl _ _).alloc (Nat.le_refl _) _⟩
  | code c =>
    obtain rfl := er_open_code hv
    clear hv
    go_enter Tryz.func34, Tryz.ntmps34
    go_wp2_with (fail)
    refine (as_ee c ⟨w.heap.size, 0, none⟩ (.int .i64 0) _ HT.out (by simp) (by simp)).mono ?_
    rintro e w' ⟨rfl, w1, hb, rfl⟩
    obtain ⟨hc, hB⟩ := hit_cell hb (.int .i64 c)
    have HB := Kp.mk hB
    clear hb hB
    go_wp2
    go_ret
    exact ⟨rfl, HB.out⟩
  | fault a c =>
    obtain ⟨p, rfl, hp⟩ := er_open_fault hv
    clear hv
    have hp1 : (w.alloc (.cells #[.int .i64 0] 36)).cell? ⟨p, 1, none⟩ = some (.iface 36 (.int .i64 c)) := by
      rw [World.cell?_alloc_lt _ _ ⟨p, 1, none⟩ (heap_lt hp)]
      exact blk_cell hp 1
    have HP := Kp.mk hp1
    clear hp1 hp
    go_enter Tryz.func34, Tryz.ntmps34
    go_wp2_with (fail)
    refine (as_fe p c ⟨w.heap.size, 0, none⟩ (.int .i64 0) _ HT.out HP.out (by simp) (by simp)).mono ?_
    rintro e w' ⟨rfl, w1, hb, rfl⟩
    obtain ⟨hc, hB⟩ := hit_cell hb (.int .i64 c)
    have HB := Kp.mk hB
    clear hb hB
    go_wp2
    go_ret
    exact ⟨rfl, HB.out⟩
end Go.Proofs.YtlkneoednkhleaaGreatDoor
