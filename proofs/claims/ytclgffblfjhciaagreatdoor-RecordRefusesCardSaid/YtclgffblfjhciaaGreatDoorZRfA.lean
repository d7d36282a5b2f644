/-
  The law RecordRefuses, in plain words: six ways in which a record may not be.
-/
import Derived.Test.YtclgffblfjhciaaGreatDoorZPlayR
import Derived.Test.YtclgffblfjhciaaGreatDoorSame
namespace Go.Proofs.YtclgffblfjhciaaGreatDoor
open Go.RowKit Go.Proofs.YtclgffblfjhciaaGreatDoorW.PrintWords
set_option linter.unusedVariables false
set_option linter.unusedSimpArgs false
set_option maxRecDepth 100000
set_option maxHeartbeats 1000000

theorem umod_raw (a : Int) (k : Int) (hk : 0 < k) : ∃ N : Nat, (N : Int) < k ∧ (IntKind.u64.wrap a).tmod k = (N : Int) := by
  have h0 : 0 ≤ IntKind.u64.wrap a := by
    unfold IntKind.wrap IntKind.bits IntKind.signed
    simp
    omega
  rw [Int.tmod_eq_emod_of_nonneg h0]
  obtain ⟨N, hN⟩ := Int.eq_ofNat_of_zero_le (Int.emod_nonneg (IntKind.u64.wrap a) (by omega : k ≠ 0))
  exact ⟨N, by have := Int.emod_lt_of_pos (IntKind.u64.wrap a) hk; omega, hN⟩
theorem bad0 (pt pc rl : Int) (ad : Ad) (tg : L) (d : List Int) : Rec.right ⟨[65], pt, pc, rl, ad, tg, d⟩ = false := by
  have h : rightL [65] = false := by decide +kernel
  simp [Rec.right, Qu.right, h]
theorem bad1 (pn : L) (pc rl : Int) (ad : Ad) (tg : L) (d : List Int) : Rec.right ⟨pn, 65536, pc, rl, ad, tg, d⟩ = false := by
  have h : within 65536 = false := by decide
  simp [Rec.right, Qu.right, h]
theorem bad2 (pn : L) (pt rl : Int) (ad : Ad) (tg : L) (d : List Int) : Rec.right ⟨pn, pt, -1, rl, ad, tg, d⟩ = false := by
  have h : within (-1) = false := by decide
  simp [Rec.right, Qu.right, h]
theorem bad3 (pn : L) (pc rl : Int) (ad : Ad) (d : List Int) : Rec.right ⟨pn, 1, pc, rl, ad, [120], d⟩ = false := by
  have h : Rec.tail ⟨pn, 1, pc, rl, ad, [120], d⟩ = false := by
    unfold Rec.tail
    rw [if_pos (.inl rfl)]
    rfl
  simp [Rec.right, h]
theorem bad4 (pn : L) (pc rl : Int) (tg : L) (d : List Int) : Rec.right ⟨pn, 5, pc, rl, ⟨true, fun _ => 0⟩, tg, d⟩ = false := by
  have h : Rec.tail ⟨pn, 5, pc, rl, ⟨true, fun _ => 0⟩, tg, d⟩ = false := by
    unfold Rec.tail
    dsimp only
    rw [if_neg (by decide), if_pos rfl]
    rfl
  simp [Rec.right, h]
theorem bad5 (pn : L) (pc rl : Int) : Rec.right ⟨pn, 28, pc, rl, Ad.zero, [], []⟩ = false := by
  have h : Rec.tail ⟨pn, 28, pc, rl, Ad.zero, [], []⟩ = false := by
    unfold Rec.tail
    rw [if_pos (.inr rfl)]
    have h1 : (false == decide ((28 : Int) = 28)) = false := by decide
    show (([] : L).isEmpty && (decide (([] : List Int).length = 0) && (Ad.zero.right && (false == decide ((28 : Int) = 28))))) = false
    rw [h1]
    simp
  simp [Rec.right, h]
theorem bare_calls (c : Int) (w : World) : Calls Tryz.prog 23 #[.int .i64 c] w fun e w' => e = .returned (failV (.code c)) ∧ Below w.heap.size w w' := by
  go_enter Tryz.func23, Tryz.ntmps23
  go_wp2
  go_returns
  exact ⟨rfl, (Below.refl _ _).alloc (Nat.le_refl _) _⟩
end Go.Proofs.YtclgffblfjhciaaGreatDoor
