/-
  Package fault: Wrap, Code, Place, Deeper, by their contracts.
-/
import Derived.Test.YtlkneoednkhleaaGreatDoorYKinds
namespace Go.Proofs.YtlkneoednkhleaaGreatDoor
open Go.RowKit Go.Proofs.YtlkneoednkhleaaGreatDoorW.PrintWords
set_option linter.unusedVariables false
set_option linter.unusedSimpArgs false
set_option maxRecDepth 100000
set_option maxHeartbeats 1000000

def Er.num : Er → Int
  | .none => 0
  | .code c => c
  | .fault _ c => c
def Er.place : Er → Int
  | .fault a _ => a
  | _ => 0

theorem wrap_calls (a c : Int) (w : World) : Calls Tryz.prog 64 #[.int .i64 a, .iface 36 (.int .i64 c)] w fun e w' =>
    e = .returned (.iface 110 (.pointer (some ⟨w.heap.size, 0, Option.none⟩))) ∧ w' = w.alloc (.cells #[.int .i64 a, .iface 36 (.int .i64 c)] 116) := by
  go_enter Tryz.func64, Tryz.ntmps64
  go_wp2
  go_ret
  exact ⟨rfl, rfl⟩
theorem er_open_none {w : World} {v : Value} (h : erK.K w .none [v]) : v = .nilIface := by
  obtain ⟨u, hu, h⟩ := h
  obtain rfl := List.singleton_inj.1 hu
  exact h
theorem er_open_code {w : World} {v : Value} {c : Int} (h : erK.K w (.code c) [v]) : v = .iface 36 (.int .i64 c) := by
  obtain ⟨u, hu, h⟩ := h
  obtain rfl := List.singleton_inj.1 hu
  exact h
theorem er_open_fault {w : World} {v : Value} {a c : Int} (h : erK.K w (.fault a c) [v]) : ∃ p, v = .iface 110 (.pointer (some ⟨p, 0, Option.none⟩)) ∧ w.heap[p]? = some (.cells #[.int .i64 a, .iface 36 (.int .i64 c)] 116 (0, 0)) := by
  obtain ⟨u, hu, h⟩ := h
  obtain rfl := List.singleton_inj.1 hu
  obtain ⟨p, h1, _, h2⟩ := h
  exact ⟨p, h1, h2⟩

/-- A variable of the call's own, set behind a call that made memory. -/
theorem hit_cell {w w1 : World} {x : Value} {T : TypeId} (hb : Below (w.alloc (.cells #[x] T)).heap.size (w.alloc (.cells #[x] T)) w1) (u : Value) :
    (w1.setCell ⟨w.heap.size, 0, none⟩ u).cell? ⟨w.heap.size, 0, none⟩ = some u ∧ Below w.heap.size w (w1.setCell ⟨w.heap.size, 0, none⟩ u) := by
  refine ⟨World.cell?_setCell_same _ _ _ (u := x) ((hb.cell (by simp)).trans (by simp)), ?_⟩
  exact (((Below.refl _ _).alloc (Nat.le_refl _) _).trans (hb.mono (by simp))).setCell (Nat.le_refl _) _
theorem env_alloc {w : World} (h : Env w) (o : Obj) : Env (w.alloc o) := h.below ((Below.refl _ _).alloc (Nat.le_refl _) o)

theorem code_calls (x : Er) (v : Value) (w : World) (hv : erK.K w x [v]) (hE : Env w) :
    Calls Tryz.prog 134 #[v] w fun e w' => e = .returned (.int .i64 x.num) ∧ Below w.heap.size w w' := by
  have HT := Kp.mk (env_alloc hE (.cells #[.int .i64 0] 36)).errT
  clear hE
  cases x with
  | none =>
    obtain rfl := er_open_none hv
    clear hv
    go_enter Tryz.func134, Tryz.ntmps134
    go_wp2_with (go_at_call 58; refine (as_nil _ _).mono ?_; rintro e w' ⟨rfl, rfl⟩)
    go_ret
    exact ⟨rfl, (Below.refl _ _).alloc (Nat.le_refl _) _⟩
  | code c =>
    obtain rfl := er_open_code hv
    clear hv
    go_enter Tryz.func134, Tryz.ntmps134
    go_wp2_with (fail)
    refine (as_ee c ⟨w.heap.size, 0, none⟩ (.int .i64 0) _ HT.out (by simp) (by simp)).mono ?_
    rintro e w' ⟨rfl, w1, hb, rfl⟩
    obtain ⟨hc, hB⟩ := hit_cell hb (.int .i64 c)
    have HB := Kp.mk hB
    clear hb hB
    go_wp2
    go_ret
    exact ⟨rfl, HB.out⟩
  | fault a c =>
    obtain ⟨p, rfl, hp⟩ := er_open_fault hv
    clear hv
    have hp1 : (w.alloc (.cells #[.int .i64 0] 36)).cell? ⟨p, 1, none⟩ = some (.iface 36 (.int .i64 c)) := by
      rw [World.cell?_alloc_lt _ _ ⟨p, 1, none⟩ (heap_lt hp)]
      exact blk_cell hp 1
    have HP := Kp.mk hp1
    clear hp1 hp
    go_enter Tryz.func134, Tryz.ntmps134
    go_wp2_with (fail)
    refine (as_fe p c ⟨w.heap.size, 0, none⟩ (.int .i64 0) _ HT.out HP.out (by simp) (by simp)).mono ?_
    rintro e w' ⟨rfl, w1, hb, rfl⟩
    obtain ⟨hc, hB⟩ := hit_cell hb (.int .i64 c)
    have HB := Kp.mk hB
    clear hb hB
    go_wp2
    go_ret
    exact ⟨rfl, HB.out⟩

def Er.placed : Er → Bool
  | .fault _ _ => true
  | _ => false

theorem place_calls (x : Er) (v : Value) (w : World) (hv : erK.K w x [v]) (hE : Env w) :
    Calls Tryz.prog 133 #[v] w fun e w' => e = .returned (.tuple #[.int .i64 x.place, .bool x.placed]) ∧ Below w.heap.size w w' := by
  have HT := Kp.mk (env_alloc hE (.cells #[.pointer none] 110)).errT
  clear hE
  cases x with
  | none =>
    obtain rfl := er_open_none hv
    clear hv
    go_enter Tryz.func133, Tryz.ntmps133
    go_wp2_with (go_at_call 58; refine (as_nil _ _).mono ?_; rintro e w' ⟨rfl, rfl⟩)
    go_ret2
    exact ⟨rfl, (Below.refl _ _).alloc (Nat.le_refl _) _⟩
  | code c =>
    obtain rfl := er_open_code hv
    clear hv
    go_enter Tryz.func133, Tryz.ntmps133
    go_wp2_with (fail)
    refine (as_ef c ⟨w.heap.size, 0, none⟩ (.pointer none) _ HT.out (by simp) (by simp)).mono ?_
    rintro e w' ⟨rfl, hb⟩
    have HB := Kp.mk (((Below.refl w.heap.size w).alloc (Nat.le_refl _) _).trans (hb.mono (by simp)))
    clear hb
    go_wp2
    go_ret2
    exact ⟨rfl, HB.out⟩
  | fault a c =>
    obtain ⟨p, rfl, hp⟩ := er_open_fault hv
    clear hv
    have hlt := heap_lt hp
    have HP := Kp.mk hp
    clear hp
    go_enter Tryz.func133, Tryz.ntmps133
    go_wp2_with (fail)
    refine (as_ff p ⟨w.heap.size, 0, none⟩ (.pointer none) _ HT.out (by simp) (by simp)).mono ?_
    rintro e w' ⟨rfl, w1, hb, rfl⟩
    obtain ⟨hc, hB⟩ := hit_cell hb (.pointer (some ⟨p, 0, none⟩))
    have hp0 := blk_cell ((hB.block p hlt).trans HP.out) 0
    have HB := Kp.mk hB
    clear hb hB
    go_wp2
    go_ret2
    exact ⟨rfl, HB.out⟩

def Er.deeper (by_ : Int) : Er → Er
  | .none => .none
  | x => .fault (by_ + x.place) x.num
theorem deeper_calls (n : Int) (x : Er) (v : Value) (w : World) (hv : erK.K w x [v]) (hE : Env w) (h1 : -9223372036854775808 ≤ n + x.place) (h2 : n + x.place ≤ 9223372036854775807) :
    Calls Tryz.prog 129 #[.int .i64 n, v] w (Gives erK (x.deeper n) w) := by
  rcases x with _ | c | ⟨a, c⟩
  · obtain rfl := er_open_none hv
    clear hv
    go_enter Tryz.func129, Tryz.ntmps129
    go_wp2
    go_ret
    exact ⟨_, rfl, er_none _ _ _, Below.refl _ _⟩
  all_goals
    have HV := Kp.mk hv
    have HE := Kp.mk hE
    first | obtain rfl := er_open_code hv | obtain ⟨p, rfl, hp⟩ := er_open_fault hv
    clear hv hE
    try clear hp
    simp only [Er.place] at h1 h2
    go_enter Tryz.func129, Tryz.ntmps129
    go_wp2_with (fail)
    refine (place_calls _ _ _ HV.out HE.out).mono ?_
    rintro e w1 ⟨rfl, hb⟩
    have HB := Kp.mk hb
    clear hb
    simp only [Er.place, Er.placed]
    go_wp2_with (fail)
    refine (code_calls _ _ _ (erK.K_below HB.out HV.out) (HE.out.below HB.out)).mono ?_
    rintro e w2 ⟨rfl, hb2⟩
    have HB2 := Kp.mk (below_step HB.out hb2)
    clear hb2 HB
    simp only [Er.num]
    go_wp2_with (fail)
    refine (wrap_calls _ _ _).mono ?_
    rintro e w3 ⟨rfl, rfl⟩
    go_wp2
    go_ret
    refine ⟨_, rfl, ?_, HB2.out.alloc HB2.out.size _⟩
    simp only [Er.deeper, Er.place, Er.num, Int.add_zero]
    exact er_fault trivial HB2.out.size (heap_new _ _)
end Go.Proofs.YtlkneoednkhleaaGreatDoor
