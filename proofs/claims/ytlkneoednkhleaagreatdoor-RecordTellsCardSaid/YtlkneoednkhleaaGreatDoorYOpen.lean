/-
  Arguments that are read as data, opened by their types' kinds: numbers, bools, texts, rows, structs, arrays of numbers.
-/
import Derived.Test.YtlkneoednkhleaaGreatDoorYKinds
import Derived.OpenShut
import Derived.DataElems
import Derived.Deep.Slices
import Derived.WideShapes
namespace Go.Proofs.YtlkneoednkhleaaGreatDoor
open Go Go.RowKit Go.Proofs.YtlkneoednkhleaaGreatDoorW.PrintWords Go.ChangeShapes Go.WideShapes
set_option linter.unusedVariables false
set_option linter.unusedSimpArgs false

set_option maxRecDepth 100000

theorem add_then (a : Addr) (i j : Nat) : (a.add i).add j = a.add (i + j) := Go.Addr.add_add a i j
/-- What reads as data at a type is one of a kind. -/
def Opens (P : Program) {α : Type} (t : TypeId) (d : Kd α) (wf : α → Prop) : Prop :=
  ∀ {H : Type} {enc : TypeId × Value → H} {w : World} {base : Nat} {spare : Nat → Bool} {held : Bool} {fuel : Nat} {cs : List Value} {x : DataW H × List MemPlace},
    DataW.trod enc P w base spare held fuel t cs = some x → ∃ y, d.K w y cs ∧ wf y
section
variable {P : Program} {t e : TypeId} {α β : Type}
theorem opens_int {k : IntKind} (ht : P.underlying t = some (.int k)) : Opens P t (Kd.int k) (fun n => (Lit.int k n).wf = true) := fun h => by
  obtain ⟨n, rfl, -, hw⟩ := DataW.trod_int ht h
  exact ⟨n, rfl, hw⟩
theorem opens_bool (ht : P.underlying t = some .bool) : Opens P t Kd.bool (fun _ => True) := fun h => by
  obtain ⟨n, rfl, -⟩ := DataW.trod_bool ht h
  exact ⟨n, rfl, trivial⟩
theorem open_rows {d : Kd α} {wf : α → Prop} (ht : P.underlying t = some (.slice e)) (hc : P.cellsOf e = d.sz) (ho : Opens P e d wf) {H : Type} {enc : TypeId × Value → H} {w : World} {base : Nat} {spare : Nat → Bool} {held : Bool} {fuel : Nat} {cs : List Value} {x : DataW H × List MemPlace}
    (h : DataW.trod enc P w base spare held fuel t cs = some x) : ∃ A c xs, cs = [.slice A xs.length c] ∧ xs.length ≤ c ∧ c ≤ 9223372036854775807 ∧ d.C w A xs.length xs ∧ ∀ y ∈ xs, wf y := by
  rcases Go.Deep.open_slice ht h with ⟨rfl, -⟩ | ⟨a, len, cap, m, n, D, Pl, rfl, hb, hl, hm, hmm, -, hx⟩
  · exact ⟨none, 0, [], rfl, Nat.le_refl _, by omega, ⟨rfl, by simp, fun h => by simp at h⟩, fun y hy => by cases hy⟩
  have hlm : len ≤ m := by rw [hmm]; split <;> omega
  have hall : ∀ i, i < len → ∃ y, ∃ cs', cs'.length = d.sz ∧ d.K w y cs' ∧ wf y ∧ ∀ j u, cs'[j]? = some u → w.cell? (a.add (i * d.sz + j)) = some u := by
    intro i hi
    obtain ⟨cs', h1, h2⟩ := hx i (by omega)
    obtain ⟨y, hK, hw⟩ := ho h2
    obtain ⟨-, hlen, hcell⟩ := World.cells?_some h1
    refine ⟨y, cs', d.K_len hK, hK, hw, fun j u hu => ?_⟩
    have hj : j < cs'.length := (List.getElem?_eq_some_iff.1 hu).1
    have := hcell j (by omega)
    rw [hu, add_then, hc] at this
    exact this
  obtain ⟨f, hf⟩ : ∃ f : Nat → Option α, ∀ i, i < len → ∃ y, f i = some y ∧ ∃ cs', cs'.length = d.sz ∧ d.K w y cs' ∧ wf y ∧ ∀ j u, cs'[j]? = some u → w.cell? (a.add (i * d.sz + j)) = some u := by
    refine ⟨fun i => if hi : i < len then some (Classical.choose (hall i hi)) else none, fun i hi => ⟨Classical.choose (hall i hi), by simp [hi], Classical.choose_spec (hall i hi)⟩⟩
  have hlen : ((List.range len).filterMap f).length = len := by
    have h : ∀ k, k ≤ len → ((List.range k).filterMap f).length = k := by
      intro k hk
      induction k with
      | zero => rfl
      | succ k ih =>
        obtain ⟨y, hy, -⟩ := hf k (by omega)
        rw [List.range_succ, List.filterMap_append, List.length_append, ih (by omega)]
        simp [hy]
    exact h len (Nat.le_refl _)
  have hget : ∀ i, i < len → ((List.range len).filterMap f)[i]? = f i := by
    have h : ∀ k, k ≤ len → ((List.range k).filterMap f).length = k ∧ ∀ i, i < k → ((List.range k).filterMap f)[i]? = f i := by
      intro k hk
      induction k with
      | zero => exact ⟨rfl, fun i hi => by omega⟩
      | succ k ih =>
        obtain ⟨h1, h2⟩ := ih (by omega)
        obtain ⟨y, hy, -⟩ := hf k (by omega)
        rw [List.range_succ, List.filterMap_append]
        refine ⟨by rw [List.length_append, h1]; simp [hy], fun i hi => ?_⟩
        by_cases he : i < k
        · rw [List.getElem?_append_left (by omega)]
          exact h2 i he
        · obtain rfl : i = k := by omega
          rw [List.getElem?_append_right (by omega), h1]
          simp [hy]
    exact (h len (Nat.le_refl _)).2
  obtain ⟨xs, hxs⟩ : ∃ xs, (List.range len).filterMap f = xs := ⟨_, rfl⟩
  rw [hxs] at hlen hget
  subst hlen
  refine ⟨some a, cap, xs, rfl, hl, by simpa [maxLen] using hm, ⟨rfl, Nat.le_trans hl (by simpa [maxLen] using hm), fun _ => ⟨a, rfl, fun j p hp => ?_⟩⟩, fun y hy => ?_⟩
  · have hj : j < xs.length := (List.getElem?_eq_some_iff.1 hp).1
    obtain ⟨y, hy, cs', h1, h2, -, h4⟩ := hf j hj
    rw [hget j hj, hy] at hp
    obtain rfl := Option.some.inj hp
    exact ⟨cs', h1, h2, fun i u hu => by rw [← h4 i u hu]⟩
  · obtain ⟨j, hj, hjy⟩ := List.getElem_of_mem hy
    obtain ⟨y', hy', cs', -, -, hw, -⟩ := hf j hj
    have := hget j hj
    rw [hy', List.getElem?_eq_getElem hj, hjy] at this
    obtain rfl := Option.some.inj this
    exact hw
theorem opens_slice {d : Kd α} {wf : α → Prop} (ht : P.underlying t = some (.slice e)) (hc : P.cellsOf e = d.sz) (ho : Opens P e d wf) : Opens P t (Kd.slice e d) (fun xs => ∀ y ∈ xs, wf y) := fun h => by
  obtain ⟨A, c, xs, rfl, h1, h2, h3, h4⟩ := open_rows ht hc ho h
  exact ⟨xs, ⟨A, c, rfl, h1, h3⟩, h4⟩
/-- The fields of a struct, from a cell on. -/
def OpensF (P : Program) {α : Type} (o : Nat) (fs : List Field) (d : Kd α) (wf : α → Prop) : Prop :=
  ∀ {H : Type} {enc : TypeId × Value → H} {w : World} {base : Nat} {spare : Nat → Bool} {held : Bool} {n : Nat} {cs : List Value},
    (∀ f ∈ fs, ∃ y, DataW.trod enc P w base spare held n f.type ((cs.drop f.offset).take (P.cellsOf f.type)) = some y) → ∃ y, d.K w y ((cs.drop o).take d.sz) ∧ wf y
theorem opensF_one {o : Nat} {f : Field} {d : Kd α} {wf : α → Prop} (hof : f.offset = o) (hc : P.cellsOf f.type = d.sz) (ho : Opens P f.type d wf) : OpensF P o [f] d wf := fun h => by
  obtain ⟨y, hy⟩ := h f (List.mem_singleton.2 rfl)
  rw [hof, hc] at hy
  exact ho hy
theorem opensF_cons {o : Nat} {f : Field} {fs : List Field} {d : Kd α} {d' : Kd β} {wf : α → Prop} {wf' : β → Prop} (hof : f.offset = o) (hc : P.cellsOf f.type = d.sz) (ho : Opens P f.type d wf) (hr : OpensF P (o + d.sz) fs d' wf') : OpensF P o (f :: fs) (Kd.pair d d') (fun x => wf x.1 ∧ wf' x.2) := fun h => by
  obtain ⟨y, hy⟩ := h f (List.mem_cons_self ..)
  rw [hof, hc] at hy
  obtain ⟨a, ha, hwa⟩ := ho hy
  obtain ⟨b, hb, hwb⟩ := hr (fun f hf => h f (List.mem_cons_of_mem _ hf))
  refine ⟨(a, b), ⟨_, _, ?_, ha, hb⟩, hwa, hwb⟩
  show List.take (d.sz + d'.sz) _ = _
  rw [List.take_add, List.drop_drop]
theorem opens_struct {fs : Array Field} {d : Kd α} {wf : α → Prop} (ht : P.underlying t = some (.struct fs)) (hc : P.cellsOf t = d.sz) (ho : OpensF P 0 fs.toList d wf) : Opens P t d wf := fun h => by
  obtain ⟨xs, n, _, rfl, hl, hlen, hf⟩ := DataW.trod_struct ht h
  obtain ⟨y, hK, hw⟩ := ho (fun f hfm => by
    obtain ⟨i, hi⟩ := List.getElem?_of_mem hfm
    have hi' : i < xs.length := by
      have := (List.getElem?_eq_some_iff.1 hi).1
      rw [Array.length_toList] at this
      omega
    rw [Array.getElem?_toList] at hi
    exact ⟨_, (hf i f hi).trans (List.getElem?_eq_getElem hi')⟩)
  rw [List.drop_zero, List.take_of_length_le (by omega)] at hK
  exact ⟨y, hK, hw⟩
end
section
variable {P : Program} {H : Type} {enc : TypeId × Value → H} {w : World} {base : Nat} {spare : Nat → Bool} {held : Bool} {r : Reach} {b0 : Nat} {v : Value} {dd : DataW H} {ps : List MemPlace}
/-- A row handed in. -/
theorem arg_row {t e : TypeId} {α : Type} {d : Kd α} {wf : α → Prop} (ht : P.underlying t = some (.slice e)) (hc : P.cellsOf e = d.sz) (ho : Opens P e d wf) (hval : Value.okWide P w r b0 t v) (hd : DataW.Trod enc P w base spare held t v dd ps) :
    ∃ A n c xs, v = .slice A n c ∧ d.C w A n xs ∧ n ≤ c ∧ c ≤ 9223372036854775807 ∧ ∀ y ∈ xs, wf y := by
  obtain ⟨a, l, c, rfl⟩ := okWide_slice ht hval
  obtain ⟨fuel, hf⟩ := hd
  obtain ⟨A, c', xs, h1, h2, h3, h4, h5⟩ := open_rows ht hc ho hf
  simp [Value.cells] at h1
  obtain ⟨rfl, rfl, rfl⟩ := h1
  exact ⟨_, _, _, xs, rfl, h4, h2, h3, h5⟩
end
theorem open_bytes {t : TypeId} {H : Type} {enc : TypeId × Value → H} {w : World} {base : Nat} {spare : Nat → Bool} {held : Bool} {r : Reach} {b0 : Nat} {v : Value} {dd : DataW H} {ps : List MemPlace} (ht : Tryz.prog.underlying t = some (.slice 5)) (hval : Value.okWide Tryz.prog w r b0 t v) (hd : DataW.Trod enc Tryz.prog w base spare held t v dd ps) :
    ∃ A n c xs, v = .slice A n c ∧ (Kd.int .u8).C w A n xs ∧ n ≤ c ∧ c ≤ 9223372036854775807 ∧ ∀ x ∈ xs, 0 ≤ x ∧ x < 256 := by
  obtain ⟨A, n, c, xs, h1, h2, h3, h4, h5⟩ := arg_row ht (by kernel_rfl) (opens_int Tryz.underlying5) hval hd
  refine ⟨A, n, c, xs, h1, h2, h3, h4, fun x hx => ?_⟩
  have h : (0 : Int) ≤ x ∧ x ≤ 255 := by simpa [Lit.wf, IntKind.min, IntKind.max, IntKind.signed, IntKind.bits] using h5 x hx
  omega
end Go.Proofs.YtlkneoednkhleaaGreatDoor
