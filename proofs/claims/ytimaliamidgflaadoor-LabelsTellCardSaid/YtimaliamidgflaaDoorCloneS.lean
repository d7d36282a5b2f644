/-
  slices.Clone at strings.
-/
import Derived.Test.YtimaliamidgflaaDoorClone
namespace Go.Proofs.YtimaliamidgflaaDoor
open Go.RowKit Go.Proofs.YtimaliamidgflaaDoorW.PrintWords
set_option linter.unusedVariables false
set_option linter.unusedSimpArgs false
set_option maxRecDepth 100000
set_option maxHeartbeats 1000000

theorem cloneS_calls (A : Option Addr) (n c : Nat) (xs : List ByteArray) (w : World) (h : Kd.string.C w A n xs) (hl : n ≤ 8796093022208) :
    Calls Tryd.prog 54 #[.slice A n c] w (Gives strsK xs w) := by
  obtain rfl := (C_len h).1
  have q : ∀ (w : World) (a : Option Addr) (n c n' c' : Nat), (binOp .eql 23 (.slice a n c) (.slice none n' c')).run Tryd.prog w = .ok (.bool a.isNone) w := fun w a n c n' c' => Lib.run_eql_slice_nil w _ _ a n c n' c' Tryd.underlying23
  rcases A with _ | ad
  · obtain ⟨hn, rfl⟩ := C_nil0 h
    clear h hn
    go_enter Tryd.func54, Tryd.ntmps54
    go_wp2
    go_ret
    exact ⟨_, rfl, ⟨_, rfl, Kd.R_nil _ _ _ _ _⟩, Below.refl _ _⟩
  · have HC := Kp.mk (Kd.C_below h ((Below.refl _ _).alloc (Nat.le_refl _) (.cells #[] 9)))
    clear h
    go_enter Tryd.func54, Tryd.ntmps54
    go_wp2_with (at_builtin; refine Kd.R_append_rows (w0 := w) Kd.string w.heap.size rfl _ _ 23 9 (.string ⟨#[]⟩) 16 rfl Tryd.underlying23 (by kernel_rfl) rfl (by decide) (by decide) _ [] xs _ _ _ (fun _ => True) (fun _ => False) rfl rfl (R_empty _ _ _ _ trivial) HC.out (fun _ _ h => h) (fun _ h => h.elim) (fun _ _ => trivial) ((Below.refl _ _).alloc (Nat.le_refl _) _) (by simp) (by simp; omega) ?_)
    intro v1 w1 hR hb _ _
    have HR := Kp.mk hR
    have HB := Kp.mk hb
    clear hR hb
    go_wp2
    go_ret
    exact ⟨_, rfl, ⟨_, rfl, HR.out⟩, HB.out⟩
end Go.Proofs.YtimaliamidgflaaDoor
