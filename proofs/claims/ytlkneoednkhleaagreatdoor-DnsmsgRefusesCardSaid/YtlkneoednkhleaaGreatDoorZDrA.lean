/-
  Messages that may not be written: the plain law.
-/
import Derived.Test.YtlkneoednkhleaaGreatDoorGv
namespace Go.Proofs.YtlkneoednkhleaaGreatDoor
open Go.RowKit Go.Proofs.YtlkneoednkhleaaGreatDoorW.PrintWords
set_option linter.unusedVariables false
set_option linter.unusedSimpArgs false
set_option maxRecDepth 100000
set_option maxHeartbeats 2000000

theorem bad_id (m : Msg) : writeM { m with id := 65536 } = ([], .code 1) := head_bad (by simp [Msg.headOk, inB])
theorem bad_op (m : Msg) : writeM { m with op := 16 } = ([], .code 1) := head_bad (by simp [Msg.headOk, inB])
theorem bad_co (m : Msg) : writeM { m with co := -1 } = ([], .code 1) := head_bad (by simp [Msg.headOk, inB])
theorem bad_fl (m : Msg) : writeM { m with fl := 128 } = ([], .code 1) := head_bad (by simp [Msg.headOk, inB])
theorem bad_qs (m : Msg) : writeM { m with qs := m.qs ++ [⟨[46], 0, 0⟩] } = ([], .code 1) := by
  by_cases h : Msg.headOk { m with qs := m.qs ++ [⟨[46], 0, 0⟩] } = true
  · exact qs_bad h (q := ⟨[46], 0, 0⟩) (by simp) (by decide +kernel)
  · exact head_bad (by simpa using h)
def badR : Rec := ⟨[], 1, -1, 0, Ad.zero, [], []⟩
theorem badR_right : badR.right = false := by decide +kernel
theorem bad_ex (m : Msg) (hq : ∀ q ∈ m.qs, q.right = true) : writeM { m with ex := m.ex ++ [badR] } = ([], .code 1) := by
  by_cases h : Msg.headOk { m with ex := m.ex ++ [badR] } = true
  · exact rs_bad h (List.all_eq_true.2 hq) (r := badR) (mem_all.2 (.inr (.inr (by simp)))) badR_right
  · exact head_bad (by simpa using h)
def bigR : Rec := ⟨[], 99, 0, 0, Ad.zero, [], List.replicate 1000 0⟩
theorem bigR_right : bigR.right = true := by
  have h1 : Qu.right ⟨[], 99, 0⟩ = true := by decide +kernel
  have h2 : rightL [] = true := by decide +kernel
  have h3 : Ad.plain Ad.zero = true := by decide +kernel
  unfold Rec.right Rec.tail bigR
  dsimp only
  rw [h1, h2, h3, List.length_replicate]
  rfl
theorem bigR_wire : bigR.wire.length = 1011 := by
  have hn : (nameW []).length = 1 := rfl
  rw [wire_len_rec, wire_q_len]
  have hb : bigR.body = List.replicate 1000 0 := rfl
  rw [hb, List.length_replicate]
  show (nameW []).length + 4 + 6 + 1000 = 1011
  rw [hn]
def bigM (n : Nat) : Msg := ⟨0, false, 0, 0, 0, [], List.replicate n bigR, [], []⟩
theorem flat_rep {α : Type} (f : α → List Int) (x : α) (n : Nat) : ((List.replicate n x).map f).flatten.length = n * (f x).length := by
  induction n with
  | zero => simp
  | succ n ih => rw [List.replicate_succ, List.map_cons, List.flatten_cons, List.length_append, ih, Nat.succ_mul]; omega
theorem big_write (n : Nat) (h4 : 4 ≤ n) (h : n ≤ 13) : writeM (bigM n) = ([], .code 4) := by
  have hal : (bigM n).all = List.replicate n bigR := by simp [Msg.all, bigM]
  have hh : (bigM n).headOk = true := by
    unfold Msg.headOk
    rw [hal, List.length_replicate]
    have h5 : (bigM n).qs.length + n ≤ 64 := by show 0 + n ≤ 64; omega
    rw [decide_eq_true h5]
    rfl
  have hr : (bigM n).all.all Rec.right = true := by
    rw [hal]
    exact List.all_eq_true.2 fun r hr => by rw [List.eq_of_mem_replicate hr]; exact bigR_right
  have hl : 4000 < (bigM n).wire.length := by
    rw [wire_len_msg, hal, flat_rep, bigR_wire]
    omega
  unfold writeM
  rw [hh, hr, if_neg (by simp), if_neg (by simp [bigM]), if_neg (by simp), if_pos hl]
end Go.Proofs.YtlkneoednkhleaaGreatDoor
