/-
  The statements' own helper: same.Is, At, Bare, at what is so.
-/
import Derived.Test.YtlkneoednkhleaaGreatDoorYOctC
import Derived.Deep.QuietTactic
import Derived.BigQuiet
namespace Go.Proofs.YtlkneoednkhleaaGreatDoor
open Go.RowKit Go.Proofs.YtlkneoednkhleaaGreatDoorW.PrintWords
set_option linter.unusedVariables false
set_option linter.unusedSimpArgs false
set_option maxRecDepth 100000
set_option maxHeartbeats 1000000

/-- Three new blocks. -/
theorem three_new (w : World) (o1 o2 o3 : Obj) : (((w.alloc o1).alloc o2).alloc o3).heap[w.heap.size]? = some o1 ∧ (((w.alloc o1).alloc o2).alloc o3).heap[w.heap.size + 1]? = some o2 ∧ (((w.alloc o1).alloc o2).alloc o3).heap[w.heap.size + 1 + 1]? = some o3 ∧ Below w.heap.size w (((w.alloc o1).alloc o2).alloc o3) := by
  have h1 : (w.alloc o1).heap.size = w.heap.size + 1 := by simp
  have h2 : ((w.alloc o1).alloc o2).heap.size = w.heap.size + 1 + 1 := by simp
  refine ⟨?_, ?_, ?_, (((Below.refl _ _).alloc (Nat.le_refl _) _).alloc (by omega) _).alloc (by omega) _⟩
  · rw [Below.heap_alloc _ _ _ (by omega), Below.heap_alloc _ _ _ (by omega)]
    exact heap_new w o1
  · rw [Below.heap_alloc _ _ _ (by omega), ← h1]
    exact heap_new _ o2
  · rw [← h2]
    exact heap_new _ o3
/-- An error as the document tells it. -/
def failV : Er → Value
  | .none => .agg #[.int .i64 0, .int .i64 0, .bool false]
  | .code c => .agg #[.int .i64 c, .int .i64 0, .bool false]
  | .fault a c => .agg #[.int .i64 c, .int .i64 a, .bool true]

theorem same_none (w : World) : Calls Tryz.prog 19 #[.nilIface, failV .none] w fun e w' => e = .returned (.bool true) ∧ Below w.heap.size w w' := by
  unfold failV
  go_enter Tryz.func19, Tryz.ntmps19
  go_wp2
  go_ret
  exact ⟨rfl, (Below.refl _ _).alloc (Nat.le_refl _) _⟩

theorem same_code (c : Int) (w : World) (hE : Env w) (hc : c ≠ 0) : Calls Tryz.prog 19 #[.iface 36 (.int .i64 c), failV (.code c)] w fun e w' => e = .returned (.bool true) ∧ Below w.heap.size w w' := by
  unfold failV
  have HE := Kp.mk hE
  have bc : (c == 0) = false := by simpa using hc
  have bn : (c != c) = false := by simp
  have bcc : (c == c) = true := by simp
  have HC := Kp.mk hc
  clear hE hc
  obtain ⟨t1, t2, t3, tb⟩ := three_new w (.cells #[.int .i64 c, .int .i64 0, .bool false] 38) (.cells #[.int .i64 0] 36) (.cells #[.pointer none] 110)
  have T := Kp.mk (And.intro t1 (And.intro t2 (And.intro t3 tb)))
  clear t1 t2 t3 tb
  go_enter Tryz.func19, Tryz.ntmps19
  go_wp2_with (fail)
  refine (as_ee c ⟨w.heap.size + 1, 0, none⟩ (.int .i64 0) _ (HE.out.below T.out.2.2.2).errT (blk_cell T.out.2.1 0) (blk_frozen T.out.2.1 0)).mono ?_
  rintro e1 w1 ⟨rfl, w2, hb, rfl⟩
  have u1 := blk_far (p := ⟨w.heap.size + 1, 0, none⟩) ((hb.block _ (heap_lt T.out.1)).trans T.out.1) (by simp) (.int .i64 c)
  have u2 := blk_put ((hb.block _ (heap_lt T.out.2.1)).trans T.out.2.1) 0 (.int .i64 c) (cs' := #[.int .i64 c]) rfl
  have u3 := blk_far (p := ⟨w.heap.size + 1, 0, none⟩) ((hb.block _ (heap_lt T.out.2.2.1)).trans T.out.2.2.1) (by simp) (.int .i64 c)
  have ub := (T.out.2.2.2.trans (hb.mono (by have := T.out.2.2.2.size; omega))).setCell (p := ⟨w.heap.size + 1, 0, none⟩) (by simp) (.int .i64 c)
  obtain ⟨W, hW⟩ : ∃ W, w2.setCell ⟨w.heap.size + 1, 0, none⟩ (.int .i64 c) = W := ⟨_, rfl⟩
  rw [hW] at u1 u2 u3 ub ⊢
  have U := Kp.mk (And.intro u1 (And.intro u2 (And.intro u3 ub)))
  have x1 := blk_cell u1 0
  have x2 := blk_cell u1 2
  have x3 := blk_cell u2 0
  clear u1 u2 u3 ub hW hb T
  go_wp2_with (fail)
  refine (is_e c c true bcc _).mono ?_
  rintro e1 w1 ⟨rfl, rfl⟩
  go_wp2_with (fail)
  refine (as_ef c ⟨w.heap.size + 1 + 1, 0, none⟩ (.pointer none) _ (HE.out.below U.out.2.2.2).errT (blk_cell U.out.2.2.1 0) (blk_frozen U.out.2.2.1 0)).mono ?_
  rintro e1 w1 ⟨rfl, hb⟩
  have x4 := blk_cell ((hb.block _ (heap_lt U.out.1)).trans U.out.1) 2
  have HB := Kp.mk (below_step U.out.2.2.2 hb)
  clear x1 x2 x3 hb
  go_wp2
  go_ret
  exact ⟨rfl, HB.out⟩

theorem same_fault (p : Nat) (a c : Int) (w : World) (hE : Env w) (hc : c ≠ 0) (hp : w.heap[p]? = some (.cells #[.int .i64 a, .iface 36 (.int .i64 c)] 116 (0, 0))) :
    Calls Tryz.prog 19 #[.iface 110 (.pointer (some ⟨p, 0, none⟩)), failV (.fault a c)] w fun e w' => e = .returned (.bool true) ∧ Below w.heap.size w w' := by
  unfold failV
  have HE := Kp.mk hE
  have bc : (c == 0) = false := by simpa using hc
  have bn : (c != c) = false := by simp
  have bcc : (c == c) = true := by simp
  have baa : (a == a) = true := by simp
  obtain ⟨t1, t2, t3, tb⟩ := three_new w (.cells #[.int .i64 c, .int .i64 a, .bool true] 38) (.cells #[.int .i64 0] 36) (.cells #[.pointer none] 110)
  have T := Kp.mk (And.intro t1 (And.intro t2 (And.intro t3 (And.intro tb ((tb.block _ (heap_lt hp)).trans hp)))))
  have hpl := heap_lt hp
  have hne1 : p ≠ w.heap.size + 1 := by omega
  have hne2 : p ≠ w.heap.size + 1 + 1 := by omega
  have N1 := Kp.mk hne1
  have N2 := Kp.mk hne2
  clear t1 t2 t3 tb hE hc hp hne1 hne2
  go_enter Tryz.func19, Tryz.ntmps19
  go_wp2_with (fail)
  refine (as_fe p c ⟨w.heap.size + 1, 0, none⟩ (.int .i64 0) _ (HE.out.below T.out.2.2.2.1).errT (blk_cell T.out.2.2.2.2 1) (blk_cell T.out.2.1 0) (blk_frozen T.out.2.1 0)).mono ?_
  rintro e1 w1 ⟨rfl, w2, hb, rfl⟩
  have u1 := blk_far (p := ⟨w.heap.size + 1, 0, none⟩) ((hb.block _ (heap_lt T.out.1)).trans T.out.1) (by simp) (.int .i64 c)
  have u2 := blk_put ((hb.block _ (heap_lt T.out.2.1)).trans T.out.2.1) 0 (.int .i64 c) (cs' := #[.int .i64 c]) rfl
  have u3 := blk_far (p := ⟨w.heap.size + 1, 0, none⟩) ((hb.block _ (heap_lt T.out.2.2.1)).trans T.out.2.2.1) (by simp) (.int .i64 c)
  have u4 := blk_far (p := ⟨w.heap.size + 1, 0, none⟩) ((hb.block _ (heap_lt T.out.2.2.2.2)).trans T.out.2.2.2.2) N1.out (.int .i64 c)
  have ub := (T.out.2.2.2.1.trans (hb.mono (by have := T.out.2.2.2.1.size; omega))).setCell (p := ⟨w.heap.size + 1, 0, none⟩) (by simp) (.int .i64 c)
  obtain ⟨W, hW⟩ : ∃ W, w2.setCell ⟨w.heap.size + 1, 0, none⟩ (.int .i64 c) = W := ⟨_, rfl⟩
  rw [hW] at u1 u2 u3 u4 ub ⊢
  have U := Kp.mk (And.intro u1 (And.intro u2 (And.intro u3 (And.intro ub u4))))
  have x1 := blk_cell u1 0
  have x2 := blk_cell u1 2
  have x3 := blk_cell u2 0
  clear u1 u2 u3 u4 ub hW hb T
  go_wp2_with (fail)
  refine (is_f p c c true bcc _ (blk_cell U.out.2.2.2.2 1)).mono ?_
  rintro e1 w1 ⟨rfl, rfl⟩
  go_wp2_with (fail)
  refine (as_ff p ⟨w.heap.size + 1 + 1, 0, none⟩ (.pointer none) _ (HE.out.below U.out.2.2.2.1).errT (blk_cell U.out.2.2.1 0) (blk_frozen U.out.2.2.1 0)).mono ?_
  rintro e1 w1 ⟨rfl, w3, hb, rfl⟩
  have v1 := blk_far (p := ⟨w.heap.size + 1 + 1, 0, none⟩) ((hb.block _ (heap_lt U.out.1)).trans U.out.1) (by simp; omega) (.pointer (some ⟨p, 0, none⟩))
  have v3 := blk_put ((hb.block _ (heap_lt U.out.2.2.1)).trans U.out.2.2.1) 0 (.pointer (some ⟨p, 0, none⟩)) (cs' := #[.pointer (some ⟨p, 0, none⟩)]) rfl
  have v4 := blk_far (p := ⟨w.heap.size + 1 + 1, 0, none⟩) ((hb.block _ (heap_lt U.out.2.2.2.2)).trans U.out.2.2.2.2) N2.out (.pointer (some ⟨p, 0, none⟩))
  have ub := (U.out.2.2.2.1.trans (hb.mono (by have := U.out.2.2.2.1.size; omega))).setCell (p := ⟨w.heap.size + 1 + 1, 0, none⟩) (by simp; omega) (.pointer (some ⟨p, 0, none⟩))
  obtain ⟨W3, hW⟩ : ∃ W3, w3.setCell ⟨w.heap.size + 1 + 1, 0, none⟩ (.pointer (some ⟨p, 0, none⟩)) = W3 := ⟨_, rfl⟩
  rw [hW] at v1 v3 v4 ub ⊢
  have y1 := blk_cell v1 1
  have y2 := blk_cell v1 2
  have y3 := blk_cell v3 0
  have y4 := blk_cell v4 0
  have UB := Kp.mk ub
  clear v1 v3 v4 ub hW hb U x1 x2 x3
  go_wp2_with (fail)
  go_quiet (fail)
  go_wp2
  go_ret
  exact ⟨rfl, pw_below_drewN UB.out _⟩
/-- same.Is at what an error is. -/
theorem same_calls (x : Er) (v : Value) (w : World) (hv : erK.K w x [v]) (hE : Env w) (hx : x = .none ∨ x.num ≠ 0) : Calls Tryz.prog 19 #[v, failV x] w fun e w' => e = .returned (.bool true) ∧ Below w.heap.size w w' := by
  rcases x with _ | c | ⟨a, c⟩
  · obtain rfl := er_open_none hv
    exact same_none w
  · obtain rfl := er_open_code hv
    exact same_code c w hE (by rcases hx with h | h; cases h; exact h)
  · obtain ⟨p, rfl, hp⟩ := er_open_fault hv
    exact same_fault p a c w hE (by rcases hx with h | h; cases h; exact h) hp
end Go.Proofs.YtlkneoednkhleaaGreatDoor
