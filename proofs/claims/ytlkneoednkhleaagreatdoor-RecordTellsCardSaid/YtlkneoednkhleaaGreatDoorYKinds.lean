/-
  The program's errors as a plain kind of value: nil, an Errno, a Fault over an Errno; how they lie in memory; what a call that makes memory of its own answers.
-/
import Derived.Test.YtlkneoednkhleaaGreatDoorYWWords
import Derived.Test.YtlkneoednkhleaaGreatDoorYErrB
import Derived.Test.YtlkneoednkhleaaGreatDoorYErrC
namespace Go.Proofs.YtlkneoednkhleaaGreatDoor
open Go.RowKit Go.Proofs.YtlkneoednkhleaaGreatDoorW.PrintWords
set_option linter.unusedVariables false
set_option linter.unusedSimpArgs false

/-- An error of the program. -/
inductive Er where
  | none
  | code (c : Int)
  | fault (place c : Int)
  deriving DecidableEq

/-- How an error lies in memory; a Fault in a block that meets 'ok'. -/
def ErAt (w : World) (ok : Nat → Prop) (v : Value) : Er → Prop
  | .none => v = .nilIface
  | .code c => v = .iface 36 (.int .i64 c)
  | .fault a c => ∃ p, v = .iface 110 (.pointer (some ⟨p, 0, Option.none⟩)) ∧ ok p ∧ w.heap[p]? = some (.cells #[.int .i64 a, .iface 36 (.int .i64 c)] 116 (0, 0))

theorem heap_lt {w : World} {k : Nat} {o : Obj} (h : w.heap[k]? = some o) : k < w.heap.size := (Array.getElem?_eq_some_iff.1 h).1

def erK : Kd Er where
  sz := 1
  E := [116]
  K := fun w x cs => ∃ v, cs = [v] ∧ ErAt w (fun _ => True) v x
  M := fun w base ok x cs => ∃ v, cs = [v] ∧ ErAt w (fun p => ok p ∧ base ≤ p) v x
  K_len := by
    rintro w x cs ⟨v, rfl, _⟩
    rfl
  K_one := by
    rintro w x cs ⟨v, rfl, h⟩ u hu
    rw [List.mem_singleton.1 hu]
    cases x with
    | none => rw [show v = _ from h]; rfl
    | code c => rw [show v = _ from h]; rfl
    | fault a c =>
      obtain ⟨p, rfl, _⟩ := h
      rfl
  K_below := by
    rintro w w1 x cs hb ⟨v, rfl, h⟩
    refine ⟨v, rfl, ?_⟩
    cases x with
    | none => exact h
    | code c => exact h
    | fault a c =>
      obtain ⟨p, rfl, h1, h2⟩ := h
      exact ⟨p, rfl, h1, (hb.block p (heap_lt h2)).trans h2⟩
  K_of_M := by
    rintro w base ok x cs ⟨v, rfl, h⟩
    refine ⟨v, rfl, ?_⟩
    cases x with
    | none => exact h
    | code c => exact h
    | fault a c =>
      obtain ⟨p, rfl, h1, h2⟩ := h
      exact ⟨p, rfl, trivial, h2⟩
  M_mono := by
    rintro w base ok ok' x cs hok ⟨v, rfl, h⟩
    refine ⟨v, rfl, ?_⟩
    cases x with
    | none => exact h
    | code c => exact h
    | fault a c =>
      obtain ⟨p, rfl, h1, h2⟩ := h
      exact ⟨p, rfl, ⟨hok p h1.1, h1.2⟩, h2⟩
  M_bound := by
    rintro w base ok x cs ⟨v, rfl, h⟩
    refine ⟨v, rfl, ?_⟩
    cases x with
    | none => exact h
    | code c => exact h
    | fault a c =>
      obtain ⟨p, rfl, h1, h2⟩ := h
      exact ⟨p, rfl, ⟨⟨h1.1, h1.2, heap_lt h2, _, List.mem_singleton.2 rfl, _, h2⟩, h1.2⟩, h2⟩
  M_move := by
    rintro w w1 base ok x cs hm ⟨v, rfl, h⟩
    refine ⟨v, rfl, ?_⟩
    cases x with
    | none => exact h
    | code c => exact h
    | fault a c =>
      obtain ⟨p, rfl, h1, h2⟩ := h
      exact ⟨p, rfl, h1, (hm p h1.1).trans h2⟩
  M_lower := by
    rintro w base base' ok x cs hb ⟨v, rfl, h⟩
    refine ⟨v, rfl, ?_⟩
    cases x with
    | none => exact h
    | code c => exact h
    | fault a c =>
      obtain ⟨p, rfl, h1, h2⟩ := h
      exact ⟨p, rfl, ⟨h1.1, Nat.le_trans hb h1.2⟩, h2⟩

/-- What a call answers that makes memory of its own alone: x, lying in memory from the call's begin on. -/
def Gives {α : Type} (d : Kd α) (x : α) (w : World) (e : Ending) (w' : World) : Prop :=
  ∃ v, e = .returned v ∧ d.M w' w.heap.size (fun _ => True) x [v] ∧ Below w.heap.size w w'
def Gives2 {α β : Type} (d1 : Kd α) (d2 : Kd β) (x : α) (y : β) (w : World) (e : Ending) (w' : World) : Prop :=
  ∃ v1 v2, e = .returned (.tuple #[v1, v2]) ∧ d1.M w' w.heap.size (fun _ => True) x [v1] ∧ d2.M w' w.heap.size (fun _ => True) y [v2] ∧ Below w.heap.size w w'
def Gives3 {α β γ : Type} (d1 : Kd α) (d2 : Kd β) (d3 : Kd γ) (x : α) (y : β) (z : γ) (w : World) (e : Ending) (w' : World) : Prop :=
  ∃ v1 v2 v3, e = .returned (.tuple #[v1, v2, v3]) ∧ d1.M w' w.heap.size (fun _ => True) x [v1] ∧ d2.M w' w.heap.size (fun _ => True) y [v2] ∧ d3.M w' w.heap.size (fun _ => True) z [v3] ∧ Below w.heap.size w w'

theorem er_none (w : World) (b : Nat) (ok : Nat → Prop) : erK.M w b ok .none [.nilIface] := ⟨_, rfl, rfl⟩
theorem er_code (w : World) (b : Nat) (ok : Nat → Prop) (c : Int) : erK.M w b ok (.code c) [.iface 36 (.int .i64 c)] := ⟨_, rfl, rfl⟩
theorem er_fault {w : World} {b : Nat} {ok : Nat → Prop} {p : Nat} {a c : Int} (h1 : ok p) (h2 : b ≤ p) (h : w.heap[p]? = some (.cells #[.int .i64 a, .iface 36 (.int .i64 c)] 116 (0, 0))) :
    erK.M w b ok (.fault a c) [.iface 110 (.pointer (some ⟨p, 0, Option.none⟩))] := ⟨_, rfl, p, rfl, ⟨h1, h2⟩, h⟩
theorem heap_new (w : World) (o : Obj) : (w.alloc o).heap[w.heap.size]? = some o := by
  show (w.heap.push o)[w.heap.size]? = some o
  simp
/-- A list of bytes. -/
def bytesK : Kd (List Int) := Kd.slice 5 (Kd.int .u8)
def strsK : Kd (List ByteArray) := Kd.slice 9 Kd.string
/-- What is kept of the package-level variables. -/
structure Env (w : World) : Prop where
  errT : ErrT w
  maxLen : ∃ m : Int, w.cell? ⟨1, 0, Option.none⟩ = some (.int .i64 m)
theorem Env.below {w w1 : World} (h : Env w) (hb : Below w.heap.size w w1) : Env w1 :=
  ⟨h.errT.below hb, let ⟨m, hm⟩ := h.maxLen; ⟨m, (hb.cell (World.block_lt_of_cell? w _ hm)).trans hm⟩⟩
/-- An element that is read, its index a count. -/
theorem at_nat {k : IntKind} {w : World} {A : Option Addr} {n : Nat} {xs : List Int} (h : (Kd.int k).C w A n xs) (i : Nat) (hi : i < n) : ∃ ad, A = some ad ∧ w.cell? (ad.add i) = some (.int k (xs.getD i 0)) := by
  obtain ⟨ad, e, hc⟩ := Kd.at_int h (i : Int) (by omega) (by omega)
  exact ⟨ad, e, by simpa [rd] using hc⟩
theorem at_natS {w : World} {A : Option Addr} {n : Nat} {xs : List ByteArray} (h : Kd.string.C w A n xs) (i : Nat) (hi : i < n) : ∃ ad, A = some ad ∧ w.cell? (ad.add i) = some (.string (xs.getD i ByteArray.empty)) := by
  obtain ⟨ad, e, hc⟩ := Kd.at_string h (i : Int) (by omega) (by omega)
  exact ⟨ad, e, by simpa [rdOf] using hc⟩
theorem take_snoc {α : Type} (xs : List α) (d : α) (k : Nat) (h : k < xs.length) : xs.take (k + 1) = xs.take k ++ [xs.getD k d] := by
  rw [List.take_succ_eq_append_getElem h]
  simp [List.getD_eq_getElem?_getD, h]
theorem getD_mem {α : Type} (xs : List α) (d : α) (k : Nat) (h : k < xs.length) : xs.getD k d ∈ xs := by
  rw [List.getD_eq_getElem?_getD, List.getElem?_eq_getElem h]
  exact List.getElem_mem h
end Go.Proofs.YtlkneoednkhleaaGreatDoor
