/-
  slices.Clone at bytes, ints, strings; what a slice that is read looks like.
-/
import Derived.Test.YtlkneoednkhleaaGreatDoorYOctA
import Derived.Test.YtlkneoednkhleaaGreatDoorYWMore
import Derived.WalkSpells
namespace Go.Proofs.YtlkneoednkhleaaGreatDoor
open Go.RowKit Go.Proofs.YtlkneoednkhleaaGreatDoorW.PrintWords
set_option linter.unusedVariables false
set_option linter.unusedSimpArgs false
set_option maxRecDepth 100000
set_option maxHeartbeats 1000000

theorem slice_open {α : Type} {e : Nat} {d : Kd α} {w : World} {xs : List α} {v : Value} (h : (Kd.slice e d).K w xs [v]) : ∃ A c, v = .slice A xs.length c ∧ xs.length ≤ c ∧ d.C w A xs.length xs := by
  obtain ⟨A, c, hv, h1, h2⟩ := h
  obtain rfl := List.singleton_inj.1 hv
  exact ⟨A, c, rfl, h1, h2⟩
theorem R_C {α : Type} {d : Kd α} {e base n c : Nat} {ok : Nat → Prop} {w : World} {A : Option Addr} {xs : List α} (h : d.R e w base ok (.slice A n c) xs) : d.C w A n xs ∧ n ≤ c := by
  obtain ⟨h1, h2, h3⟩ := Kd.R_reads' h
  subst h1
  exact ⟨h3, h2⟩
theorem C_len {α : Type} {d : Kd α} {w : World} {A : Option Addr} {n : Nat} {xs : List α} (h : d.C w A n xs) : xs.length = n ∧ n ≤ 9223372036854775807 := ⟨h.1, h.2.1⟩
theorem C_nil0 {α : Type} {d : Kd α} {w : World} {n : Nat} {xs : List α} (h : d.C w none n xs) : n = 0 ∧ xs = [] := by
  rcases Nat.eq_zero_or_pos n with h0 | h0
  · exact ⟨h0, List.eq_nil_of_length_eq_zero (h.1.trans h0)⟩
  · obtain ⟨ad, h1, _⟩ := h.2.2 h0
    cases h1
theorem R_empty {α : Type} (d : Kd α) (e : Nat) (w : World) (ok : Nat → Prop) (hok : ok w.heap.size) : d.R e (w.alloc (.cells #[] e)) w.heap.size ok (.slice (some ⟨w.heap.size, 0, none⟩) 0 0) [] := by
  refine ⟨fun k hk => ?_, [], ?_, Reps.none _ _⟩
  · have h : w.heap.size = k := by simpa [Value.ownBlock] using hk
    exact h ▸ hok
  · have h := World.ownsRow_made (e := e) (size := d.sz) w #[] 0 (Nat.le_refl _) (Nat.zero_le _) (by simp)
    simpa using h

theorem cloneB_calls (A : Option Addr) (n c : Nat) (xs : List Int) (w : World) (h : (Kd.int .u8).C w A n xs) (hl : n ≤ 140737488355328) :
    Calls Tryz.prog 117 #[.slice A n c] w (Gives bytesK xs w) := by
  obtain rfl := (C_len h).1
  have q : ∀ (w : World) (a : Option Addr) (n c n' c' : Nat), (binOp .eql 22 (.slice a n c) (.slice none n' c')).run Tryz.prog w = .ok (.bool a.isNone) w := fun w a n c n' c' => Lib.run_eql_slice_nil w _ _ a n c n' c' Tryz.underlying22
  rcases A with _ | ad
  · obtain ⟨hn, rfl⟩ := C_nil0 h
    clear h hn
    go_enter Tryz.func117, Tryz.ntmps117
    go_wp2
    go_ret
    exact ⟨_, rfl, ⟨_, rfl, Kd.R_nil _ _ _ _ _⟩, Below.refl _ _⟩
  · have HC := Kp.mk (Kd.C_below h ((Below.refl _ _).alloc (Nat.le_refl _) (.cells #[] 5)))
    clear h
    go_enter Tryz.func117, Tryz.ntmps117
    go_wp2_with (at_builtin; refine Kd.R_append_rows (w0 := w) (Kd.int .u8) w.heap.size rfl _ _ 22 5 (.int .u8 0) 1 rfl Tryz.underlying22 (by kernel_rfl) rfl (by decide) (by decide) _ [] xs _ _ _ (fun _ => True) (fun _ => False) rfl rfl (R_empty _ _ _ _ trivial) HC.out (fun _ _ h => h) (fun _ h => h.elim) (fun _ _ => trivial) ((Below.refl _ _).alloc (Nat.le_refl _) _) (by simp) (by simp; omega) ?_)
    intro v1 w1 hR hb _ _
    have HR := Kp.mk hR
    have HB := Kp.mk hb
    clear hR hb
    go_wp2
    go_ret
    exact ⟨_, rfl, ⟨_, rfl, HR.out⟩, HB.out⟩
end Go.Proofs.YtlkneoednkhleaaGreatDoor
