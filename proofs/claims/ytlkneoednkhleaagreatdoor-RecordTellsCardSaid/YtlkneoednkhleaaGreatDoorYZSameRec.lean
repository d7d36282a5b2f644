/-
  The statements' own helper: same.Record, at two that are alike.
-/
import Derived.Test.YtlkneoednkhleaaGreatDoorYGs
import Derived.Test.YtlkneoednkhleaaGreatDoorYRefP
namespace Go.Proofs.YtlkneoednkhleaaGreatDoor
open Go.RowKit Go.Proofs.YtlkneoednkhleaaGreatDoorW.PrintWords Go.Proofs.YtlkneoednkhleaaGreatDoor.P
set_option linter.unusedVariables false
set_option linter.unusedSimpArgs false
set_option maxRecDepth 100000
set_option maxHeartbeats 1000000

/-- A struct that is loaded whole, under a guard that holds. -/
theorem ld_blkG {P : Program} {ops : Array Oper} {rest : List Oper} {o : Oper} {a : Act} {Q : Exit → Act → World → Prop} {w : World} (hw : Region.wanted o (yielded ops a.tmps) = true) (ty : TypeId) (x : Operand) (ho : o.op = .load ty x) (g : Nat) (hx : a.eval x = .pointer (some ⟨g, 0, none⟩)) {t : TypeId} {cs : Array Value} (hg : Kp (w.heap[g]? = some (.cells cs t (0, 0))))
    {d : TypeDesc} (hu : P.underlying ty = some d) (hd : (match d with | .struct _ | .array _ _ => true | _ => false) = true) (hi : (P.info? ty).map (·.size) = some cs.size)
    (h : wpList P ops Q rest (a.put o.dst (.agg cs)) w) : wpList P ops Q (o :: rest) a w :=
  wpList_step fun K hK => by
    rw [if_pos hw]
    exact wp_load_row ty x ho g hx t cs (0, 0) d hg.out hu hd hi (hK _ _ h)
theorem sameRec_calls (rn : L) (rt rc rl : Int) (v : Bool) (b b' : Nat → Int) (tg : L) (d : List Int) (A A' : Option Addr) (c c' : Nat) (w : World) (hb : eq16 [b 0, b 1, b 2, b 3, b 4, b 5, b 6, b 7, b 8, b 9, b 10, b 11, b 12, b 13, b 14, b 15] [b' 0, b' 1, b' 2, b' 3, b' 4, b' 5, b' 6, b' 7, b' 8, b' 9, b' 10, b' 11, b' 12, b' 13, b' 14, b' 15] = true) (h : (Kd.int .u8).C w A d.length d) (hc : d.length ≤ c) (h' : (Kd.int .u8).C w A' d.length d) (hc' : d.length ≤ c') :
    Calls Tryz.prog 20 #[.agg (recA ⟨rn, rt, rc, rl, ⟨v, b⟩, tg, d⟩ (.slice A d.length c)), .agg (recA ⟨rn, rt, rc, rl, ⟨v, b'⟩, tg, d⟩ (.slice A' d.length c'))] w fun e w' => e = .returned (.bool true) ∧ Below w.heap.size w w' := by
  have HC := Kp.mk h
  have HC' := Kp.mk h'
  have heq := fun (w : World) => run_eq_ad v v (b 0) (b 1) (b 2) (b 3) (b 4) (b 5) (b 6) (b 7) (b 8) (b 9) (b 10) (b 11) (b 12) (b 13) (b 14) (b 15) (b' 0) (b' 1) (b' 2) (b' 3) (b' 4) (b' 5) (b' 6) (b' 7) (b' 8) (b' 9) (b' 10) (b' 11) (b' 12) (b' 13) (b' 14) (b' 15) w
  rw [hb] at heq
  have ht : (v == v && true) = true := by cases v <;> rfl
  rw [ht] at heq
  clear h h' hb ht
  show Calls Tryz.prog 20 #[.agg #[.string (mkB rn), .int .i64 rt, .int .i64 rc, .int .u32 rl, .bool v, .int .u8 (b 0), .int .u8 (b 1), .int .u8 (b 2), .int .u8 (b 3), .int .u8 (b 4), .int .u8 (b 5), .int .u8 (b 6), .int .u8 (b 7), .int .u8 (b 8), .int .u8 (b 9), .int .u8 (b 10), .int .u8 (b 11), .int .u8 (b 12), .int .u8 (b 13), .int .u8 (b 14), .int .u8 (b 15), .string (mkB tg), .slice A d.length c], .agg #[.string (mkB rn), .int .i64 rt, .int .i64 rc, .int .u32 rl, .bool v, .int .u8 (b' 0), .int .u8 (b' 1), .int .u8 (b' 2), .int .u8 (b' 3), .int .u8 (b' 4), .int .u8 (b' 5), .int .u8 (b' 6), .int .u8 (b' 7), .int .u8 (b' 8), .int .u8 (b' 9), .int .u8 (b' 10), .int .u8 (b' 11), .int .u8 (b' 12), .int .u8 (b' 13), .int .u8 (b' 14), .int .u8 (b' 15), .string (mkB tg), .slice A' d.length c']] w fun e w' => e = .returned (.bool true) ∧ Below w.heap.size w w'
  have HB := Kp.mk (((Below.refl w.heap.size w).alloc (Nat.le_refl _) (.cells #[.string (mkB rn), .int .i64 rt, .int .i64 rc, .int .u32 rl, .bool v, .int .u8 (b 0), .int .u8 (b 1), .int .u8 (b 2), .int .u8 (b 3), .int .u8 (b 4), .int .u8 (b 5), .int .u8 (b 6), .int .u8 (b 7), .int .u8 (b 8), .int .u8 (b 9), .int .u8 (b 10), .int .u8 (b 11), .int .u8 (b 12), .int .u8 (b 13), .int .u8 (b 14), .int .u8 (b 15), .string (mkB tg), .slice A d.length c] 28)).alloc (by simp) (.cells #[.string (mkB rn), .int .i64 rt, .int .i64 rc, .int .u32 rl, .bool v, .int .u8 (b' 0), .int .u8 (b' 1), .int .u8 (b' 2), .int .u8 (b' 3), .int .u8 (b' 4), .int .u8 (b' 5), .int .u8 (b' 6), .int .u8 (b' 7), .int .u8 (b' 8), .int .u8 (b' 9), .int .u8 (b' 10), .int .u8 (b' 11), .int .u8 (b' 12), .int .u8 (b' 13), .int .u8 (b' 14), .int .u8 (b' 15), .string (mkB tg), .slice A' d.length c'] 28))
  go_enter Tryz.func20, Tryz.ntmps20
  go_wp2_with (fail)
  refine (stockadehelp_Bytes.calls A c d A' c' d true _ (Kd.C_below HC.out HB.out) hc (Kd.C_below HC'.out HB.out) hc' (by simp [stockadehelp_Bytes.f])).mono ?_
  rintro e w1 ⟨rfl, hd⟩
  have HB1 := Kp.mk (below_step HB.out hd.below)
  clear hd
  go_wp2
  go_ret
  exact ⟨rfl, HB1.out⟩
end Go.Proofs.YtlkneoednkhleaaGreatDoor
