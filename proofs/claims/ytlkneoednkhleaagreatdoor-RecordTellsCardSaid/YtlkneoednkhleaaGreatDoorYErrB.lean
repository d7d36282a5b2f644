/-
  errors.As, by its contracts: at a nil error, an Errno, a Fault over an Errno; the target an *Errno or a **Fault.
-/
import Derived.Test.YtlkneoednkhleaaGreatDoorYErrA
namespace Go.Proofs.YtlkneoednkhleaaGreatDoor
open Go.RowKit Go.Extern.Stop Go.Stop Go.Extern
set_option linter.unusedVariables false
set_option linter.unusedSimpArgs false

/-- The variable errors.errorType holds the type 'error'. -/
def ErrT (w : World) : Prop := w.cell? ⟨0, 0, none⟩ = some (.iface 189 (.agg #[.pointer (some ⟨4, 33, none⟩)]))
theorem ErrT.lt {w : World} (h : ErrT w) : 0 < w.heap.size := World.block_lt_of_cell? w _ h
theorem ErrT.below {w w1 : World} (h : ErrT w) (hb : Below w.heap.size w w1) : ErrT w1 := (hb.cell (World.block_lt_of_cell? w _ h)).trans h

theorem as_nil (t : Value) (w : World) :
    Calls Tryz.prog 58 #[.nilIface, t] w fun e w' => e = .returned (.bool false) ∧ w' = w := by
  go_enter Tryz.func58, Tryz.ntmps58
  go_wp2
  go_ret
  exact ⟨rfl, rfl⟩

attribute [local go_sem] cfV cfT cfN cfK cfE cfI cfO cfA cfC cfVE cfS valueOfE valueOfF valueOfe valueOff typeE typeF kindE kindF kinde kindf elemE elemF implementse implementsf typeOfe typeOff assignee assignef assignfe assignff
set_option maxHeartbeats 4000000 in
set_option maxRecDepth 100000 in
theorem as_ee (c : Int) (t : Addr) (old : Value) (w : World) (hg : ErrT w) (ht0 : w.cell? t = some old) (hf0 : w.frozen? t = false) :
    Calls Tryz.prog 58 #[.iface 36 (.int .i64 c), .iface 112 (.pointer (some t))] w fun ev w' => ev = .returned (.bool true) ∧ ∃ w1, Below w.heap.size w w1 ∧ w' = w1.setCell t (.int .i64 c) := by
  have n8 := isNilE ⟨w.heap.size, 0, none⟩ t ((w.alloc (.cells #[.pointer (some t)] 112)).alloc (.cells #[.pointer (some ⟨4, 112, none⟩), .pointer (some ⟨w.heap.size, 0, none⟩), .int .u64 150] 149)) (by simp)
  have hlt := hg.lt
  have hg2 : ((w.alloc (.cells #[.pointer (some t)] 112)).alloc (.cells #[.pointer (some ⟨4, 112, none⟩), .pointer (some ⟨w.heap.size, 0, none⟩), .int .u64 150] 149)).cell? ⟨0, 0, none⟩ = some (.iface 189 (.agg #[.pointer (some ⟨4, 33, none⟩)])) :=
    hg.below (((Below.refl _ _).alloc (Nat.le_refl _) _).alloc (by simp) _)
  have htl : t.block < w.heap.size := World.block_lt_of_cell? w _ ht0
  have el := elemVE ⟨w.heap.size, 0, none⟩ t (((w.alloc (.cells #[.pointer (some t)] 112)).alloc (.cells #[.pointer (some ⟨4, 112, none⟩), .pointer (some ⟨w.heap.size, 0, none⟩), .int .u64 150] 149)).alloc (.cells #[.pointer (some ⟨4, 112, none⟩), .pointer (some ⟨w.heap.size, 0, none⟩), .int .u64 150] 149)) (by rw [World.cell?_alloc_lt _ _ ⟨w.heap.size, 0, none⟩ (by simp; omega)]; simp)
  have B4 : Below w.heap.size w ((((w.alloc (.cells #[.pointer (some t)] 112)).alloc (.cells #[.pointer (some ⟨4, 112, none⟩), .pointer (some ⟨w.heap.size, 0, none⟩), .int .u64 150] 149)).alloc (.cells #[.pointer (some ⟨4, 112, none⟩), .pointer (some ⟨w.heap.size, 0, none⟩), .int .u64 150] 149)).alloc (.cells #[.int .i64 c] 36)) :=
    ((((Below.refl _ _).alloc (Nat.le_refl _) _).alloc (by simp) _).alloc (by simp; omega) _).alloc (by simp; omega) _
  have st := sete t ⟨w.heap.size + 1 + 1 + 1, 0, none⟩ c old ((((w.alloc (.cells #[.pointer (some t)] 112)).alloc (.cells #[.pointer (some ⟨4, 112, none⟩), .pointer (some ⟨w.heap.size, 0, none⟩), .int .u64 150] 149)).alloc (.cells #[.pointer (some ⟨4, 112, none⟩), .pointer (some ⟨w.heap.size, 0, none⟩), .int .u64 150] 149)).alloc (.cells #[.int .i64 c] 36))
    (by rw [World.cell?_alloc_at _ _ _ _ (by simp)]; rfl) ((B4.cell htl).trans ht0) ((B4.frozen htl).trans hf0)
  have HB4 := Kp.mk B4
  clear B4
  have Hg := Kp.mk hg
  clear hg
  go_enter Tryz.func58, Tryz.ntmps58
  go_wp2
  refine wp_loop_rounds 1 ?_
  rw [rounds_succ]
  go_wp2
  go_ret
  exact ⟨rfl, _, HB4.out, rfl⟩

set_option maxHeartbeats 4000000 in
set_option maxRecDepth 100000 in
theorem as_ef (c : Int) (t : Addr) (old : Value) (w : World) (hg : ErrT w) (ht0 : w.cell? t = some old) (_hf0 : w.frozen? t = false) :
    Calls Tryz.prog 58 #[.iface 36 (.int .i64 c), .iface 114 (.pointer (some t))] w fun ev w' => ev = .returned (.bool false) ∧ Below w.heap.size w w' := by
  have na := noAs_e
  have nu := noUnwrap_e
  have nus := noUnwraps_e
  have n8 := isNilF ⟨w.heap.size, 0, none⟩ t ((w.alloc (.cells #[.pointer (some t)] 114)).alloc (.cells #[.pointer (some ⟨4, 114, none⟩), .pointer (some ⟨w.heap.size, 0, none⟩), .int .u64 150] 149)) (by simp)
  have hlt := hg.lt
  have B2 : Below w.heap.size w ((w.alloc (.cells #[.pointer (some t)] 114)).alloc (.cells #[.pointer (some ⟨4, 114, none⟩), .pointer (some ⟨w.heap.size, 0, none⟩), .int .u64 150] 149)) := ((Below.refl _ _).alloc (Nat.le_refl _) _).alloc (by simp) _
  have hg2 : ((w.alloc (.cells #[.pointer (some t)] 114)).alloc (.cells #[.pointer (some ⟨4, 114, none⟩), .pointer (some ⟨w.heap.size, 0, none⟩), .int .u64 150] 149)).cell? ⟨0, 0, none⟩ = some (.iface 189 (.agg #[.pointer (some ⟨4, 33, none⟩)])) :=
    hg.below B2
  have htl : t.block < w.heap.size := World.block_lt_of_cell? w _ ht0
  have B3 : Below w.heap.size w (((w.alloc (.cells #[.pointer (some t)] 114)).alloc (.cells #[.pointer (some ⟨4, 114, none⟩), .pointer (some ⟨w.heap.size, 0, none⟩), .int .u64 150] 149)).alloc (.cells #[.pointer (some ⟨4, 114, none⟩), .pointer (some ⟨w.heap.size, 0, none⟩), .int .u64 150] 149)) := B2.alloc (by simp; omega) _
  have HB3 := Kp.mk B3
  clear B3
  have Hg := Kp.mk hg
  clear hg B2
  go_enter Tryz.func58, Tryz.ntmps58
  go_wp2
  refine wp_loop_rounds 1 ?_
  rw [rounds_succ]
  go_wp2
  go_ret
  exact ⟨rfl, HB3.out⟩

set_option maxHeartbeats 4000000 in
set_option maxRecDepth 100000 in
theorem as_fe (p : Nat) (c : Int) (t : Addr) (old : Value) (w : World) (hg : ErrT w) (hp1 : w.cell? ⟨p, 1, none⟩ = some (.iface 36 (.int .i64 c))) (ht0 : w.cell? t = some old) (hf0 : w.frozen? t = false) :
    Calls Tryz.prog 58 #[.iface 110 (.pointer (some ⟨p, 0, none⟩)), .iface 112 (.pointer (some t))] w fun ev w' => ev = .returned (.bool true) ∧ ∃ w1, Below w.heap.size w w1 ∧ w' = w1.setCell t (.int .i64 c) := by
  have na := noAs_f
  have hu := hasUnwrap_f
  have n8 := isNilE ⟨w.heap.size, 0, none⟩ t ((w.alloc (.cells #[.pointer (some t)] 112)).alloc (.cells #[.pointer (some ⟨4, 112, none⟩), .pointer (some ⟨w.heap.size, 0, none⟩), .int .u64 150] 149)) (by simp)
  have hlt := hg.lt
  have B2 : Below w.heap.size w ((w.alloc (.cells #[.pointer (some t)] 112)).alloc (.cells #[.pointer (some ⟨4, 112, none⟩), .pointer (some ⟨w.heap.size, 0, none⟩), .int .u64 150] 149)) := ((Below.refl _ _).alloc (Nat.le_refl _) _).alloc (by simp) _
  have hg2 : ((w.alloc (.cells #[.pointer (some t)] 112)).alloc (.cells #[.pointer (some ⟨4, 112, none⟩), .pointer (some ⟨w.heap.size, 0, none⟩), .int .u64 150] 149)).cell? ⟨0, 0, none⟩ = some (.iface 189 (.agg #[.pointer (some ⟨4, 33, none⟩)])) :=
    hg.below B2
  have htl : t.block < w.heap.size := World.block_lt_of_cell? w _ ht0
  have B3 : Below w.heap.size w (((w.alloc (.cells #[.pointer (some t)] 112)).alloc (.cells #[.pointer (some ⟨4, 112, none⟩), .pointer (some ⟨w.heap.size, 0, none⟩), .int .u64 150] 149)).alloc (.cells #[.pointer (some ⟨4, 112, none⟩), .pointer (some ⟨w.heap.size, 0, none⟩), .int .u64 150] 149)) := B2.alloc (by simp; omega) _
  have c1 := (B3.cell (World.block_lt_of_cell? w _ hp1)).trans hp1
  have el := elemVE ⟨w.heap.size, 0, none⟩ t (((w.alloc (.cells #[.pointer (some t)] 112)).alloc (.cells #[.pointer (some ⟨4, 112, none⟩), .pointer (some ⟨w.heap.size, 0, none⟩), .int .u64 150] 149)).alloc (.cells #[.pointer (some ⟨4, 112, none⟩), .pointer (some ⟨w.heap.size, 0, none⟩), .int .u64 150] 149)) (by rw [World.cell?_alloc_lt _ _ ⟨w.heap.size, 0, none⟩ (by simp; omega)]; simp)
  have B4 : Below w.heap.size w ((((w.alloc (.cells #[.pointer (some t)] 112)).alloc (.cells #[.pointer (some ⟨4, 112, none⟩), .pointer (some ⟨w.heap.size, 0, none⟩), .int .u64 150] 149)).alloc (.cells #[.pointer (some ⟨4, 112, none⟩), .pointer (some ⟨w.heap.size, 0, none⟩), .int .u64 150] 149)).alloc (.cells #[.int .i64 c] 36)) := B3.alloc (by simp; omega) _
  have st := sete t ⟨w.heap.size + 1 + 1 + 1, 0, none⟩ c old ((((w.alloc (.cells #[.pointer (some t)] 112)).alloc (.cells #[.pointer (some ⟨4, 112, none⟩), .pointer (some ⟨w.heap.size, 0, none⟩), .int .u64 150] 149)).alloc (.cells #[.pointer (some ⟨4, 112, none⟩), .pointer (some ⟨w.heap.size, 0, none⟩), .int .u64 150] 149)).alloc (.cells #[.int .i64 c] 36))
    (by rw [World.cell?_alloc_at _ _ _ _ (by simp)]; rfl) ((B4.cell htl).trans ht0) ((B4.frozen htl).trans hf0)
  have HB4 := Kp.mk B4
  clear B4
  have HB3 := Kp.mk B3
  clear B3
  have Hg := Kp.mk hg
  clear hg B2
  go_enter Tryz.func58, Tryz.ntmps58
  go_wp2
  refine wp_loop_rounds 2 ?_
  rw [rounds_succ]
  go_wp2
  rw [rounds_succ]
  go_wp2
  go_ret
  exact ⟨rfl, _, HB4.out, rfl⟩

set_option maxHeartbeats 4000000 in
set_option maxRecDepth 100000 in
theorem as_ff (p : Nat) (t : Addr) (old : Value) (w : World) (hg : ErrT w) (ht0 : w.cell? t = some old) (hf0 : w.frozen? t = false) :
    Calls Tryz.prog 58 #[.iface 110 (.pointer (some ⟨p, 0, none⟩)), .iface 114 (.pointer (some t))] w fun ev w' => ev = .returned (.bool true) ∧ ∃ w1, Below w.heap.size w w1 ∧ w' = w1.setCell t (.pointer (some ⟨p, 0, none⟩)) := by
  have n8 := isNilF ⟨w.heap.size, 0, none⟩ t ((w.alloc (.cells #[.pointer (some t)] 114)).alloc (.cells #[.pointer (some ⟨4, 114, none⟩), .pointer (some ⟨w.heap.size, 0, none⟩), .int .u64 150] 149)) (by simp)
  have hlt := hg.lt
  have B2 : Below w.heap.size w ((w.alloc (.cells #[.pointer (some t)] 114)).alloc (.cells #[.pointer (some ⟨4, 114, none⟩), .pointer (some ⟨w.heap.size, 0, none⟩), .int .u64 150] 149)) := ((Below.refl _ _).alloc (Nat.le_refl _) _).alloc (by simp) _
  have hg2 : ((w.alloc (.cells #[.pointer (some t)] 114)).alloc (.cells #[.pointer (some ⟨4, 114, none⟩), .pointer (some ⟨w.heap.size, 0, none⟩), .int .u64 150] 149)).cell? ⟨0, 0, none⟩ = some (.iface 189 (.agg #[.pointer (some ⟨4, 33, none⟩)])) :=
    hg.below B2
  have htl : t.block < w.heap.size := World.block_lt_of_cell? w _ ht0
  have B3 : Below w.heap.size w (((w.alloc (.cells #[.pointer (some t)] 114)).alloc (.cells #[.pointer (some ⟨4, 114, none⟩), .pointer (some ⟨w.heap.size, 0, none⟩), .int .u64 150] 149)).alloc (.cells #[.pointer (some ⟨4, 114, none⟩), .pointer (some ⟨w.heap.size, 0, none⟩), .int .u64 150] 149)) := B2.alloc (by simp; omega) _
  have el := elemVF ⟨w.heap.size, 0, none⟩ t (((w.alloc (.cells #[.pointer (some t)] 114)).alloc (.cells #[.pointer (some ⟨4, 114, none⟩), .pointer (some ⟨w.heap.size, 0, none⟩), .int .u64 150] 149)).alloc (.cells #[.pointer (some ⟨4, 114, none⟩), .pointer (some ⟨w.heap.size, 0, none⟩), .int .u64 150] 149)) (by rw [World.cell?_alloc_lt _ _ ⟨w.heap.size, 0, none⟩ (by simp; omega)]; simp)
  have B4 : Below w.heap.size w ((((w.alloc (.cells #[.pointer (some t)] 114)).alloc (.cells #[.pointer (some ⟨4, 114, none⟩), .pointer (some ⟨w.heap.size, 0, none⟩), .int .u64 150] 149)).alloc (.cells #[.pointer (some ⟨4, 114, none⟩), .pointer (some ⟨w.heap.size, 0, none⟩), .int .u64 150] 149)).alloc (.cells #[.pointer (some ⟨p, 0, none⟩)] 110)) := B3.alloc (by simp; omega) _
  have st := setf t ⟨w.heap.size + 1 + 1 + 1, 0, none⟩ ⟨p, 0, none⟩ old ((((w.alloc (.cells #[.pointer (some t)] 114)).alloc (.cells #[.pointer (some ⟨4, 114, none⟩), .pointer (some ⟨w.heap.size, 0, none⟩), .int .u64 150] 149)).alloc (.cells #[.pointer (some ⟨4, 114, none⟩), .pointer (some ⟨w.heap.size, 0, none⟩), .int .u64 150] 149)).alloc (.cells #[.pointer (some ⟨p, 0, none⟩)] 110))
    (by rw [World.cell?_alloc_at _ _ _ _ (by simp)]; rfl) ((B4.cell htl).trans ht0) ((B4.frozen htl).trans hf0)
  have HB4 := Kp.mk B4
  clear B4
  have HB3 := Kp.mk B3
  clear B3
  have Hg := Kp.mk hg
  clear hg B2
  go_enter Tryz.func58, Tryz.ntmps58
  go_wp2
  refine wp_loop_rounds 1 ?_
  rw [rounds_succ]
  go_wp2
  go_ret
  exact ⟨rfl, _, HB4.out, rfl⟩

end Go.Proofs.YtlkneoednkhleaaGreatDoor
