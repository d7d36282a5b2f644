/-
  Package octets: ask, short, number, U16, Part, by their contracts.
-/
import Derived.Test.YtlkneoednkhleaaGreatDoorYOctA
import Derived.Test.YtlkneoednkhleaaGreatDoorYWMore
namespace Go.Proofs.YtlkneoednkhleaaGreatDoor
open Go.RowKit Go.Proofs.YtlkneoednkhleaaGreatDoorW.PrintWords
set_option linter.unusedVariables false
set_option linter.unusedSimpArgs false
set_option maxRecDepth 100000
set_option maxHeartbeats 1000000

/-- octets.ask: why so many bytes are not there. -/
def askE (len a n : Int) : Er := if a < 0 ∨ n < 0 then .code 1 else if 0 < n ∧ len - n < a then .code 3 else .none
def shortE (a : Int) (x : Er) : Er := if x.num = 3 then x.deeper a else x
theorem ask_calls (A : Option Addr) (len cap : Nat) (a n : Int) (w : World) (hl : len ≤ 140737488355328) (hn : n ≤ 9223372036854775807) :
    Calls Tryz.prog 115 #[.slice A len cap, .int .i64 a, .int .i64 n] w fun e w' => (∃ v, e = .returned v ∧ erK.M w w.heap.size (fun _ => True) (askE len a n) [v]) ∧ w = w' := by
  unfold askE
  by_cases h1 : a < 0
  · have b1 : decide (a < 0) = true := by simpa using h1
    rw [if_pos (.inl h1)]
    go_enter Tryz.func115, Tryz.ntmps115
    go_wp2
    go_ret
    exact ⟨⟨_, rfl, er_code _ _ _ _⟩, rfl⟩
  · have b1 : decide (a < 0) = false := by simpa using h1
    by_cases h2 : n < 0
    · have b2 : decide (n < 0) = true := by simpa using h2
      rw [if_pos (.inr h2)]
      go_enter Tryz.func115, Tryz.ntmps115
      go_wp2
      go_ret
      exact ⟨⟨_, rfl, er_code _ _ _ _⟩, rfl⟩
    · have b2 : decide (n < 0) = false := by simpa using h2
      rw [if_neg (by omega)]
      by_cases h3 : 0 < n
      · have b3 : decide (0 < n) = true := by simpa using h3
        by_cases h4 : (len : Int) - n < a
        · rw [if_pos ⟨h3, h4⟩]
          have b4 : decide ((len : Int) - n < a) = true := by simpa using h4
          go_enter Tryz.func115, Tryz.ntmps115
          go_wp2
          go_ret
          exact ⟨⟨_, rfl, er_code _ _ _ _⟩, rfl⟩
        · rw [if_neg (by omega)]
          have b4 : decide ((len : Int) - n < a) = false := by simpa using h4
          go_enter Tryz.func115, Tryz.ntmps115
          go_wp2
          go_ret
          exact ⟨⟨_, rfl, er_none _ _ _⟩, rfl⟩
      · have b3 : decide (0 < n) = false := by simpa using h3
        rw [if_neg (by omega)]
        go_enter Tryz.func115, Tryz.ntmps115
        go_wp2
        go_ret
        exact ⟨⟨_, rfl, er_none _ _ _⟩, rfl⟩
end Go.Proofs.YtlkneoednkhleaaGreatDoor
