/-
  errors.Is at an Errno that is asked for, by its contracts: at nil, an Errno, a Fault over an Errno.
-/
import Derived.Test.YtlkneoednkhleaaGreatDoorYErrA
namespace Go.Proofs.YtlkneoednkhleaaGreatDoor
open Go.RowKit Go.Extern.Stop Go.Stop Go.Extern
set_option linter.unusedVariables false
set_option linter.unusedSimpArgs false
attribute [local go_sem] cfO cfC typeOfe comparablee

section
variable {P : Program} (w : World)
theorem run_equalIn_iface_int (d : Nat) {ti tn : TypeId} {ms : Array (String × TypeId)} {i : TypeInfo} {k : IntKind} (a b : Int)
    (hi : P.underlying ti = some (.interface ms)) (hn : P.underlying tn = some (.int k)) (hinfo : P.info? tn = some i) (hcomp : i.comparable = true) :
    (Op.equalIn (d + 2) ti (.iface tn (.int k a)) (.iface tn (.int k b))).run P w = .ok (a == b) w := by
  simp [Op.equalIn, run_underlying hi, run_underlying hn, typeInfo, hinfo, hcomp]
theorem run_eql_iface_int {ti tn : TypeId} {ms : Array (String × TypeId)} {i : TypeInfo} {k : IntKind} (a b : Int)
    (hi : P.underlying ti = some (.interface ms)) (hn : P.underlying tn = some (.int k)) (hinfo : P.info? tn = some i) (hcomp : i.comparable = true) :
    (binOp .eql ti (.iface tn (.int k a)) (.iface tn (.int k b))).run P w = .ok (.bool (a == b)) w := by
  simp only [binOp]
  simp [Op.equal, Op.maxDepth, run_equalIn_iface_int w 9998 a b hi hn hinfo hcomp]
end
theorem eqe (w : World) (a b : Int) : (binOp .eql 33 (.iface 36 (.int .i64 a)) (.iface 36 (.int .i64 b))).run Tryz.prog w = .ok (.bool (a == b)) w := by
  obtain ⟨i, hi, hc⟩ := Option.map_eq_some_iff.1 (show (Tryz.prog.info? 36).map (fun i => i.comparable) = some true by kernel_rfl)
  exact run_eql_iface_int w a b Tryz.underlying33 Tryz.underlying36 hi hc
theorem eqfe (w : World) (p b : Value) : (binOp .eql 33 (.iface 110 p) (.iface 36 b)).run Tryz.prog w = .ok (.bool false) w :=
  run_eql_iface_types _ _ _ _ Tryz.underlying33 (by decide) w

theorem is_nil (k : Int) (w : World) :
    Calls Tryz.prog 59 #[.nilIface, .iface 36 (.int .i64 k)] w fun e w' => e = .returned (.bool false) ∧ w = w' := by
  have hnl := fun (w : World) (v : Value) => run_eql_iface_nil_left w 36 v Tryz.underlying33
  go_enter Tryz.func59, Tryz.ntmps59
  go_wp2
  go_ret
  exact ⟨rfl, rfl⟩

set_option maxHeartbeats 4000000 in
theorem is_e (c k : Int) (b : Bool) (hb : (c == k) = b) (w : World) :
    Calls Tryz.prog 59 #[.iface 36 (.int .i64 c), .iface 36 (.int .i64 k)] w fun e w' => e = .returned (.bool b) ∧ w = w' := by
  have he := eqe
  have ni := noIs_e
  have nu := noUnwrap_e
  have nus := noUnwraps_e
  cases b
  all_goals
    go_enter Tryz.func59, Tryz.ntmps59
    go_wp2
    refine wp_loop_rounds 1 ?_
    rw [rounds_succ]
    go_wp2
    go_ret
    exact ⟨rfl, rfl⟩

set_option maxHeartbeats 4000000 in
set_option maxRecDepth 100000 in
theorem is_f (p : Nat) (c k : Int) (b : Bool) (hb : (c == k) = b) (w : World) (hp1 : w.cell? ⟨p, 1, none⟩ = some (.iface 36 (.int .i64 c))) :
    Calls Tryz.prog 59 #[.iface 110 (.pointer (some ⟨p, 0, none⟩)), .iface 36 (.int .i64 k)] w fun e w' => e = .returned (.bool b) ∧ w = w' := by
  have he := eqe
  have hf := eqfe
  have ni := noIs_e
  have nif := noIs_f
  have hu := hasUnwrap_f
  have nu := noUnwrap_e
  have nus := noUnwraps_e
  cases b
  all_goals
    go_enter Tryz.func59, Tryz.ntmps59
    go_wp2
    refine wp_loop_rounds 2 ?_
    rw [rounds_succ]
    go_wp2
    rw [rounds_succ]
    go_wp2
    go_ret
    exact ⟨rfl, rfl⟩
end Go.Proofs.YtlkneoednkhleaaGreatDoor
