/-
  Several texts of this seat in one: Open, OpenR, PatK.
-/
import Derived.Test.YtimaliamidgflaaDoorKinds
import Derived.OpenShut
import Derived.DataElems
import Derived.Deep.Slices
import Derived.WideShapes
import Derived.SizedLaws
import Derived.Test.YtimaliamidgflaaDoorCx
namespace Go.Proofs.YtimaliamidgflaaDoor
open Go Go.RowKit Go.Proofs.YtimaliamidgflaaDoorW.PrintWords Go.ChangeShapes Go.WideShapes
set_option linter.unusedVariables false
set_option linter.unusedSimpArgs false

set_option maxRecDepth 100000

theorem add_then (a : Addr) (i j : Nat) : (a.add i).add j = a.add (i + j) := Go.Addr.add_add a i j
/-- What reads as data at a type is one of a kind. -/
def Opens (P : Program) {α : Type} (t : TypeId) (d : Kd α) (wf : α → Prop) : Prop :=
  ∀ {H : Type} {enc : TypeId × Value → H} {w : World} {base : Nat} {spare : Nat → Bool} {held : Bool} {fuel : Nat} {cs : List Value} {x : DataW H × List MemPlace},
    DataW.trod enc P w base spare held fuel t cs = some x → ∃ y, d.K w y cs ∧ wf y
section
variable {P : Program} {t e : TypeId} {α β : Type}
theorem opens_int {k : IntKind} (ht : P.underlying t = some (.int k)) : Opens P t (Kd.int k) (fun n => (Lit.int k n).wf = true) := fun h => by
  obtain ⟨n, rfl, -, hw⟩ := DataW.trod_int ht h
  exact ⟨n, rfl, hw⟩
theorem opens_bool (ht : P.underlying t = some .bool) : Opens P t Kd.bool (fun _ => True) := fun h => by
  obtain ⟨n, rfl, -⟩ := DataW.trod_bool ht h
  exact ⟨n, rfl, trivial⟩
theorem opens_string (ht : P.underlying t = some .string) : Opens P t Kd.string (fun s => s.size ≤ 9223372036854775807) := fun h => by
  obtain ⟨s, rfl, -, hs⟩ := DataW.trod_string ht h
  exact ⟨s, rfl, hs⟩
theorem open_rows {d : Kd α} {wf : α → Prop} (ht : P.underlying t = some (.slice e)) (hc : P.cellsOf e = d.sz) (ho : Opens P e d wf) {H : Type} {enc : TypeId × Value → H} {w : World} {base : Nat} {spare : Nat → Bool} {held : Bool} {fuel : Nat} {cs : List Value} {x : DataW H × List MemPlace}
    (h : DataW.trod enc P w base spare held fuel t cs = some x) : ∃ A c xs, cs = [.slice A xs.length c] ∧ xs.length ≤ c ∧ c ≤ 9223372036854775807 ∧ d.C w A xs.length xs ∧ ∀ y ∈ xs, wf y := by
  rcases Go.Deep.open_slice ht h with ⟨rfl, -⟩ | ⟨a, len, cap, m, n, D, Pl, rfl, hb, hl, hm, hmm, -, hx⟩
  · exact ⟨none, 0, [], rfl, Nat.le_refl _, by omega, ⟨rfl, by simp, fun h => by simp at h⟩, fun y hy => by cases hy⟩
  have hlm : len ≤ m := by rw [hmm]; split <;> omega
  have hall : ∀ i, i < len → ∃ y, ∃ cs', cs'.length = d.sz ∧ d.K w y cs' ∧ wf y ∧ ∀ j u, cs'[j]? = some u → w.cell? (a.add (i * d.sz + j)) = some u := by
    intro i hi
    obtain ⟨cs', h1, h2⟩ := hx i (by omega)
    obtain ⟨y, hK, hw⟩ := ho h2
    obtain ⟨-, hlen, hcell⟩ := World.cells?_some h1
    refine ⟨y, cs', d.K_len hK, hK, hw, fun j u hu => ?_⟩
    have hj : j < cs'.length := (List.getElem?_eq_some_iff.1 hu).1
    have := hcell j (by omega)
    rw [hu, add_then, hc] at this
    exact this
  obtain ⟨f, hf⟩ : ∃ f : Nat → Option α, ∀ i, i < len → ∃ y, f i = some y ∧ ∃ cs', cs'.length = d.sz ∧ d.K w y cs' ∧ wf y ∧ ∀ j u, cs'[j]? = some u → w.cell? (a.add (i * d.sz + j)) = some u := by
    refine ⟨fun i => if hi : i < len then some (Classical.choose (hall i hi)) else none, fun i hi => ⟨Classical.choose (hall i hi), by simp [hi], Classical.choose_spec (hall i hi)⟩⟩
  have hlen : ((List.range len).filterMap f).length = len := by
    have h : ∀ k, k ≤ len → ((List.range k).filterMap f).length = k := by
      intro k hk
      induction k with
      | zero => rfl
      | succ k ih =>
        obtain ⟨y, hy, -⟩ := hf k (by omega)
        rw [List.range_succ, List.filterMap_append, List.length_append, ih (by omega)]
        simp [hy]
    exact h len (Nat.le_refl _)
  have hget : ∀ i, i < len → ((List.range len).filterMap f)[i]? = f i := by
    have h : ∀ k, k ≤ len → ((List.range k).filterMap f).length = k ∧ ∀ i, i < k → ((List.range k).filterMap f)[i]? = f i := by
      intro k hk
      induction k with
      | zero => exact ⟨rfl, fun i hi => by omega⟩
      | succ k ih =>
        obtain ⟨h1, h2⟩ := ih (by omega)
        obtain ⟨y, hy, -⟩ := hf k (by omega)
        rw [List.range_succ, List.filterMap_append]
        refine ⟨by rw [List.length_append, h1]; simp [hy], fun i hi => ?_⟩
        by_cases he : i < k
        · rw [List.getElem?_append_left (by omega)]
          exact h2 i he
        · obtain rfl : i = k := by omega
          rw [List.getElem?_append_right (by omega), h1]
          simp [hy]
    exact (h len (Nat.le_refl _)).2
  obtain ⟨xs, hxs⟩ : ∃ xs, (List.range len).filterMap f = xs := ⟨_, rfl⟩
  rw [hxs] at hlen hget
  subst hlen
  refine ⟨some a, cap, xs, rfl, hl, by simpa [maxLen] using hm, ⟨rfl, Nat.le_trans hl (by simpa [maxLen] using hm), fun _ => ⟨a, rfl, fun j p hp => ?_⟩⟩, fun y hy => ?_⟩
  · have hj : j < xs.length := (List.getElem?_eq_some_iff.1 hp).1
    obtain ⟨y, hy, cs', h1, h2, -, h4⟩ := hf j hj
    rw [hget j hj, hy] at hp
    obtain rfl := Option.some.inj hp
    exact ⟨cs', h1, h2, fun i u hu => by rw [← h4 i u hu]⟩
  · obtain ⟨j, hj, hjy⟩ := List.getElem_of_mem hy
    obtain ⟨y', hy', cs', -, -, hw, -⟩ := hf j hj
    have := hget j hj
    rw [hy', List.getElem?_eq_getElem hj, hjy] at this
    obtain rfl := Option.some.inj this
    exact hw
theorem opens_slice {d : Kd α} {wf : α → Prop} (ht : P.underlying t = some (.slice e)) (hc : P.cellsOf e = d.sz) (ho : Opens P e d wf) : Opens P t (Kd.slice e d) (fun xs => ∀ y ∈ xs, wf y) := fun h => by
  obtain ⟨A, c, xs, rfl, h1, h2, h3, h4⟩ := open_rows ht hc ho h
  exact ⟨xs, ⟨A, c, rfl, h1, h3⟩, h4⟩
theorem opens_iso {d : Kd α} {wf : α → Prop} {f : β → α} (g : α → β) (hg : ∀ x, f (g x) = x) (ho : Opens P t d wf) : Opens P t (Kd.iso d f) (fun y => wf (f y)) := fun h => by
  obtain ⟨y, hK, hw⟩ := ho h
  refine ⟨g y, ?_, by show wf (f (g y)); rw [hg]; exact hw⟩
  show d.K _ (f (g y)) _
  rw [hg]
  exact hK
theorem opens_wf {d : Kd α} {wf wf' : α → Prop} (ho : Opens P t d wf) (hw : ∀ x, wf x → wf' x) : Opens P t d wf' := fun h => by
  obtain ⟨y, hK, h2⟩ := ho h
  exact ⟨y, hK, hw y h2⟩
/-- The fields of a struct, from a cell on. -/
def OpensF (P : Program) {α : Type} (o : Nat) (fs : List Field) (d : Kd α) (wf : α → Prop) : Prop :=
  ∀ {H : Type} {enc : TypeId × Value → H} {w : World} {base : Nat} {spare : Nat → Bool} {held : Bool} {n : Nat} {cs : List Value},
    (∀ f ∈ fs, ∃ y, DataW.trod enc P w base spare held n f.type ((cs.drop f.offset).take (P.cellsOf f.type)) = some y) → ∃ y, d.K w y ((cs.drop o).take d.sz) ∧ wf y
theorem opensF_one {o : Nat} {f : Field} {d : Kd α} {wf : α → Prop} (hof : f.offset = o) (hc : P.cellsOf f.type = d.sz) (ho : Opens P f.type d wf) : OpensF P o [f] d wf := fun h => by
  obtain ⟨y, hy⟩ := h f (List.mem_singleton.2 rfl)
  rw [hof, hc] at hy
  exact ho hy
theorem opensF_cons {o : Nat} {f : Field} {fs : List Field} {d : Kd α} {d' : Kd β} {wf : α → Prop} {wf' : β → Prop} (hof : f.offset = o) (hc : P.cellsOf f.type = d.sz) (ho : Opens P f.type d wf) (hr : OpensF P (o + d.sz) fs d' wf') : OpensF P o (f :: fs) (Kd.pair d d') (fun x => wf x.1 ∧ wf' x.2) := fun h => by
  obtain ⟨y, hy⟩ := h f (List.mem_cons_self ..)
  rw [hof, hc] at hy
  obtain ⟨a, ha, hwa⟩ := ho hy
  obtain ⟨b, hb, hwb⟩ := hr (fun f hf => h f (List.mem_cons_of_mem _ hf))
  refine ⟨(a, b), ⟨_, _, ?_, ha, hb⟩, hwa, hwb⟩
  show List.take (d.sz + d'.sz) _ = _
  rw [List.take_add, List.drop_drop]
theorem opens_struct {fs : Array Field} {d : Kd α} {wf : α → Prop} (ht : P.underlying t = some (.struct fs)) (hc : P.cellsOf t = d.sz) (ho : OpensF P 0 fs.toList d wf) : Opens P t d wf := fun h => by
  obtain ⟨xs, n, _, rfl, hl, hlen, hf⟩ := DataW.trod_struct ht h
  obtain ⟨y, hK, hw⟩ := ho (fun f hfm => by
    obtain ⟨i, hi⟩ := List.getElem?_of_mem hfm
    have hi' : i < xs.length := by
      have := (List.getElem?_eq_some_iff.1 hi).1
      rw [Array.length_toList] at this
      omega
    rw [Array.getElem?_toList] at hi
    exact ⟨_, (hf i f hi).trans (List.getElem?_eq_getElem hi')⟩)
  rw [List.drop_zero, List.take_of_length_le (by omega)] at hK
  exact ⟨y, hK, hw⟩
end
section
variable {P : Program} {H : Type} {enc : TypeId × Value → H} {w : World} {base : Nat} {spare : Nat → Bool} {held : Bool} {r : Reach} {b0 : Nat} {v : Value} {dd : DataW H} {ps : List MemPlace}
/-- A row handed in. -/
theorem arg_row {t e : TypeId} {α : Type} {d : Kd α} {wf : α → Prop} (ht : P.underlying t = some (.slice e)) (hc : P.cellsOf e = d.sz) (ho : Opens P e d wf) (hval : Value.okWide P w r b0 t v) (hd : DataW.Trod enc P w base spare held t v dd ps) :
    ∃ A n c xs, v = .slice A n c ∧ d.C w A n xs ∧ n ≤ c ∧ c ≤ 9223372036854775807 ∧ ∀ y ∈ xs, wf y := by
  obtain ⟨a, l, c, rfl⟩ := okWide_slice ht hval
  obtain ⟨fuel, hf⟩ := hd
  obtain ⟨A, c', xs, h1, h2, h3, h4, h5⟩ := open_rows ht hc ho hf
  simp [Value.cells] at h1
  obtain ⟨rfl, rfl, rfl⟩ := h1
  exact ⟨_, _, _, xs, rfl, h4, h2, h3, h5⟩
end
theorem open_bytes {t : TypeId} {H : Type} {enc : TypeId × Value → H} {w : World} {base : Nat} {spare : Nat → Bool} {held : Bool} {r : Reach} {b0 : Nat} {v : Value} {dd : DataW H} {ps : List MemPlace} (ht : Tryd.prog.underlying t = some (.slice 5)) (hval : Value.okWide Tryd.prog w r b0 t v) (hd : DataW.Trod enc Tryd.prog w base spare held t v dd ps) :
    ∃ A n c xs, v = .slice A n c ∧ (Kd.int .u8).C w A n xs ∧ n ≤ c ∧ c ≤ 9223372036854775807 ∧ ∀ x ∈ xs, 0 ≤ x ∧ x < 256 := by
  obtain ⟨A, n, c, xs, h1, h2, h3, h4, h5⟩ := arg_row ht (by kernel_rfl) (opens_int Tryd.underlying5) hval hd
  refine ⟨A, n, c, xs, h1, h2, h3, h4, fun x hx => ?_⟩
  have h : (0 : Int) ≤ x ∧ x ≤ 255 := by simpa [Lit.wf, IntKind.min, IntKind.max, IntKind.signed, IntKind.bits] using h5 x hx
  omega
theorem open_bools {H : Type} {enc : TypeId × Value → H} {w : World} {base : Nat} {spare : Nat → Bool} {held : Bool} {r : Reach} {b0 : Nat} {v : Value} {dd : DataW H} {ps : List MemPlace} (hval : Value.okWide Tryd.prog w r b0 63 v) (hd : DataW.Trod enc Tryd.prog w base spare held 63 v dd ps) :
    ∃ A n c xs, v = .slice A n c ∧ Kd.bool.C w A n xs ∧ n ≤ c ∧ c ≤ 9223372036854775807 := by
  obtain ⟨A, n, c, xs, h1, h2, h3, h4, -⟩ := arg_row Tryd.underlying63 (by kernel_rfl) (opens_bool Tryd.underlying4) hval hd
  exact ⟨A, n, c, xs, h1, h2, h3, h4⟩
theorem open_ints {H : Type} {enc : TypeId × Value → H} {w : World} {base : Nat} {spare : Nat → Bool} {held : Bool} {r : Reach} {b0 : Nat} {v : Value} {dd : DataW H} {ps : List MemPlace} (hval : Value.okWide Tryd.prog w r b0 37 v) (hd : DataW.Trod enc Tryd.prog w base spare held 37 v dd ps) :
    ∃ A n c xs, v = .slice A n c ∧ (Kd.int .i64).C w A n xs ∧ n ≤ c ∧ c ≤ 9223372036854775807 := by
  obtain ⟨A, n, c, xs, h1, h2, h3, h4, -⟩ := arg_row Tryd.underlying37 (by kernel_rfl) (opens_int Tryd.underlying3) hval hd
  exact ⟨A, n, c, xs, h1, h2, h3, h4⟩
end Go.Proofs.YtimaliamidgflaaDoor

namespace Go.Proofs.YtimaliamidgflaaDoor
open Go Go.RowKit Go.Proofs.YtimaliamidgflaaDoorW.PrintWords Go.ChangeShapes Go.WideShapes
set_option linter.unusedVariables false
set_option linter.unusedSimpArgs false
set_option maxRecDepth 100000

def Sized {H : Type} (P : Program) (t : TypeId) (x : DataW H) : Prop := ∀ q ∈ x.weights P t, q ≤ reachBytes
theorem weights_mem_all {H : Type} {P : Program} {e : TypeId} : ∀ {l : List (DataW H)} {d : DataW H}, d ∈ l → ∀ n ∈ d.weights P e, n ∈ DataW.weightsAll P e l
  | d0 :: l, d, hd, n, hn => by
    simp only [DataW.weightsAll, List.mem_append]
    rcases List.mem_cons.1 hd with rfl | hd
    · exact .inl hn
    · exact .inr (weights_mem_all hd n hn)
  | [], _, hd, _, _ => by cases hd
/-- What reads as data at a type, and is no longer than memory reaches, is one of a kind. -/
def OpensR (P : Program) {α : Type} (t : TypeId) (d : Kd α) (wf : α → Prop) : Prop :=
  ∀ {H : Type} {enc : TypeId × Value → H} {w : World} {base : Nat} {spare : Nat → Bool} {held : Bool} {fuel : Nat} {cs : List Value} {x : DataW H × List MemPlace},
    DataW.trod enc P w base spare held fuel t cs = some x → Sized P t x.1 → ∃ y, d.K w y cs ∧ wf y
section
variable {P : Program} {t e : TypeId} {α β : Type}
theorem Opens.sized {d : Kd α} {wf : α → Prop} (ho : Opens P t d wf) : OpensR P t d wf := fun h _ => ho h
theorem opensR_string (ht : P.underlying t = some .string) : OpensR P t Kd.string (fun s => s.size ≤ 140737488355328) := fun h hz => by
  obtain ⟨s, rfl, he, -⟩ := DataW.trod_string ht h
  refine ⟨s, rfl, ?_⟩
  subst he
  have h1 := hz s.data.toList.length (by simp [DataW.weights])
  have h2 : s.data.toList.length = s.size := data_length s
  unfold reachBytes at h1
  omega
theorem opensR_wf {d : Kd α} {wf wf' : α → Prop} (ho : OpensR P t d wf) (hw : ∀ x, wf x → wf' x) : OpensR P t d wf' := fun h hz => by
  obtain ⟨y, hK, h2⟩ := ho h hz
  exact ⟨y, hK, hw y h2⟩
/-- The fields of a struct, from a cell on. -/
def OpensFR (P : Program) {α : Type} (o : Nat) (fs : List Field) (d : Kd α) (wf : α → Prop) : Prop :=
  ∀ {H : Type} {enc : TypeId × Value → H} {w : World} {base : Nat} {spare : Nat → Bool} {held : Bool} {n : Nat} {cs : List Value},
    (∀ f ∈ fs, ∃ y, DataW.trod enc P w base spare held n f.type ((cs.drop f.offset).take (P.cellsOf f.type)) = some y ∧ Sized P f.type y.1) → ∃ y, d.K w y ((cs.drop o).take d.sz) ∧ wf y
theorem opensFR_one {o : Nat} {f : Field} {d : Kd α} {wf : α → Prop} (hof : f.offset = o) (hc : P.cellsOf f.type = d.sz) (ho : OpensR P f.type d wf) : OpensFR P o [f] d wf := fun h => by
  obtain ⟨y, hy, hz⟩ := h f (List.mem_singleton.2 rfl)
  rw [hof, hc] at hy
  exact ho hy hz
theorem opensFR_cons {o : Nat} {f : Field} {fs : List Field} {d : Kd α} {d' : Kd β} {wf : α → Prop} {wf' : β → Prop} (hof : f.offset = o) (hc : P.cellsOf f.type = d.sz) (ho : OpensR P f.type d wf) (hr : OpensFR P (o + d.sz) fs d' wf') : OpensFR P o (f :: fs) (Kd.pair d d') (fun x => wf x.1 ∧ wf' x.2) := fun h => by
  obtain ⟨y, hy, hz⟩ := h f (List.mem_cons_self ..)
  rw [hof, hc] at hy
  obtain ⟨a, ha, hwa⟩ := ho hy hz
  obtain ⟨b, hb, hwb⟩ := hr (fun f hf => h f (List.mem_cons_of_mem _ hf))
  refine ⟨(a, b), ⟨_, _, ?_, ha, hb⟩, hwa, hwb⟩
  show List.take (d.sz + d'.sz) _ = _
  rw [List.take_add, List.drop_drop]
theorem opensR_struct {fs : Array Field} {d : Kd α} {wf : α → Prop} (ht : P.underlying t = some (.struct fs)) (hc : P.cellsOf t = d.sz) (ho : OpensFR P 0 fs.toList d wf) : OpensR P t d wf := fun h hz => by
  obtain ⟨xs, n, _, rfl, hl, hlen, hf⟩ := DataW.trod_struct ht h
  obtain ⟨y, hK, hw⟩ := ho (fun f hfm => by
    obtain ⟨i, hi⟩ := List.getElem?_of_mem hfm
    have hi' : i < xs.length := by
      have := (List.getElem?_eq_some_iff.1 hi).1
      rw [Array.length_toList] at this
      omega
    have hi2 := hi
    rw [Array.getElem?_toList] at hi
    refine ⟨_, (hf i f hi).trans (List.getElem?_eq_getElem hi'), fun q hq => hz q ?_⟩
    unfold DataW.weights
    rw [ht]
    exact DataW.weights_mem_each (j := i) (by rw [List.getElem?_map, hi2]; rfl) (by rw [List.getElem?_map, List.getElem?_eq_getElem hi']; rfl) q hq)
  rw [List.drop_zero, List.take_of_length_le (by omega)] at hK
  exact ⟨y, hK, hw⟩
theorem open_rowsR {d : Kd α} {wf : α → Prop} (ht : P.underlying t = some (.slice e)) (hc : P.cellsOf e = d.sz) (ho : OpensR P e d wf) {H : Type} {enc : TypeId × Value → H} {w : World} {base : Nat} {spare : Nat → Bool} {held : Bool} {fuel : Nat} {cs : List Value} {x : DataW H × List MemPlace}
    (h : DataW.trod enc P w base spare held fuel t cs = some x) (hz : Sized P t x.1) : ∃ A c xs, cs = [.slice A xs.length c] ∧ xs.length ≤ c ∧ c ≤ 9223372036854775807 ∧ d.C w A xs.length xs ∧ ∀ y ∈ xs, wf y := by
  rcases Go.Deep.open_slice ht h with ⟨rfl, -⟩ | ⟨a, len, cap, m, n, D, Pl, rfl, hb, hl, hm, hmm, hxe, hx⟩
  · exact ⟨none, 0, [], rfl, Nat.le_refl _, by omega, ⟨rfl, by simp, fun h => by simp at h⟩, fun y hy => by cases hy⟩
  have hlm : len ≤ m := by rw [hmm]; split <;> omega
  have hall : ∀ i, i < len → ∃ y, ∃ cs', cs'.length = d.sz ∧ d.K w y cs' ∧ wf y ∧ ∀ j u, cs'[j]? = some u → w.cell? (a.add (i * d.sz + j)) = some u := by
    intro i hi
    obtain ⟨cs', h1, h2⟩ := hx i (by omega)
    obtain ⟨y, hK, hw⟩ := ho h2 (fun q hq => hz q (by
      rw [hxe]
      show q ∈ DataW.weights P t (.slice ((List.range len).map D) ((List.range (m - len)).map fun j => D (len + j)))
      unfold DataW.weights
      rw [ht]
      exact List.mem_cons_of_mem _ (List.mem_append_left _ (weights_mem_all (List.mem_map.2 ⟨i, List.mem_range.2 hi, rfl⟩) q hq))))
    obtain ⟨-, hlen, hcell⟩ := World.cells?_some h1
    refine ⟨y, cs', d.K_len hK, hK, hw, fun j u hu => ?_⟩
    have hj : j < cs'.length := (List.getElem?_eq_some_iff.1 hu).1
    have := hcell j (by omega)
    rw [hu, add_then, hc] at this
    exact this
  obtain ⟨f, hf⟩ : ∃ f : Nat → Option α, ∀ i, i < len → ∃ y, f i = some y ∧ ∃ cs', cs'.length = d.sz ∧ d.K w y cs' ∧ wf y ∧ ∀ j u, cs'[j]? = some u → w.cell? (a.add (i * d.sz + j)) = some u := by
    refine ⟨fun i => if hi : i < len then some (Classical.choose (hall i hi)) else none, fun i hi => ⟨Classical.choose (hall i hi), by simp [hi], Classical.choose_spec (hall i hi)⟩⟩
  have hlen : ((List.range len).filterMap f).length = len := by
    have h : ∀ k, k ≤ len → ((List.range k).filterMap f).length = k := by
      intro k hk
      induction k with
      | zero => rfl
      | succ k ih =>
        obtain ⟨y, hy, -⟩ := hf k (by omega)
        rw [List.range_succ, List.filterMap_append, List.length_append, ih (by omega)]
        simp [hy]
    exact h len (Nat.le_refl _)
  have hget : ∀ i, i < len → ((List.range len).filterMap f)[i]? = f i := by
    have h : ∀ k, k ≤ len → ((List.range k).filterMap f).length = k ∧ ∀ i, i < k → ((List.range k).filterMap f)[i]? = f i := by
      intro k hk
      induction k with
      | zero => exact ⟨rfl, fun i hi => by omega⟩
      | succ k ih =>
        obtain ⟨h1, h2⟩ := ih (by omega)
        obtain ⟨y, hy, -⟩ := hf k (by omega)
        rw [List.range_succ, List.filterMap_append]
        refine ⟨by rw [List.length_append, h1]; simp [hy], fun i hi => ?_⟩
        by_cases he : i < k
        · rw [List.getElem?_append_left (by omega)]
          exact h2 i he
        · obtain rfl : i = k := by omega
          rw [List.getElem?_append_right (by omega), h1]
          simp [hy]
    exact (h len (Nat.le_refl _)).2
  obtain ⟨xs, hxs⟩ : ∃ xs, (List.range len).filterMap f = xs := ⟨_, rfl⟩
  rw [hxs] at hlen hget
  subst hlen
  refine ⟨some a, cap, xs, rfl, hl, by simpa [maxLen] using hm, ⟨rfl, Nat.le_trans hl (by simpa [maxLen] using hm), fun _ => ⟨a, rfl, fun j p hp => ?_⟩⟩, fun y hy => ?_⟩
  · have hj : j < xs.length := (List.getElem?_eq_some_iff.1 hp).1
    obtain ⟨y, hy, cs', h1, h2, -, h4⟩ := hf j hj
    rw [hget j hj, hy] at hp
    obtain rfl := Option.some.inj hp
    exact ⟨cs', h1, h2, fun i u hu => by rw [← h4 i u hu]⟩
  · obtain ⟨j, hj, hjy⟩ := List.getElem_of_mem hy
    obtain ⟨y', hy', cs', -, -, hw, -⟩ := hf j hj
    have := hget j hj
    rw [hy', List.getElem?_eq_getElem hj, hjy] at this
    obtain rfl := Option.some.inj this
    exact hw
theorem opensR_slice {d : Kd α} {wf : α → Prop} (ht : P.underlying t = some (.slice e)) (hc : P.cellsOf e = d.sz) (ho : OpensR P e d wf) : OpensR P t (Kd.slice e d) (fun xs => ∀ y ∈ xs, wf y) := fun h hz => by
  obtain ⟨A, c, xs, rfl, h1, h2, h3, h4⟩ := open_rowsR ht hc ho h hz
  exact ⟨xs, ⟨A, c, rfl, h1, h3⟩, h4⟩
end
section
variable {P : Program} {H : Type} {enc : TypeId × Value → H} {w : World} {base : Nat} {spare : Nat → Bool} {held : Bool} {r : Reach} {b0 : Nat} {v : Value} {dd : DataW H} {ps : List MemPlace}
theorem arg_rowR {t e : TypeId} {α : Type} {d : Kd α} {wf : α → Prop} (ht : P.underlying t = some (.slice e)) (hc : P.cellsOf e = d.sz) (ho : OpensR P e d wf) (hval : Value.okWide P w r b0 t v) (hd : DataW.Trod enc P w base spare held t v dd ps) (hz : Sized P t dd) :
    ∃ A n c xs, v = .slice A n c ∧ d.C w A n xs ∧ n ≤ c ∧ c ≤ 9223372036854775807 ∧ ∀ y ∈ xs, wf y := by
  obtain ⟨a, l, c, rfl⟩ := okWide_slice ht hval
  obtain ⟨fuel, hf⟩ := hd
  obtain ⟨A, c', xs, h1, h2, h3, h4, h5⟩ := open_rowsR ht hc ho hf hz
  simp [Value.cells] at h1
  obtain ⟨rfl, rfl, rfl⟩ := h1
  exact ⟨_, _, _, xs, rfl, h4, h2, h3, h5⟩
/-- What the row's premise says of an argument. -/
theorem sized_arg {ts : List TypeId} {ds : List (DataW H)} (h : (DataW.weightsEach P ts ds).all (· ≤ reachBytes) = true) {j : Nat} {t : TypeId} {d : DataW H} (ht : ts[j]? = some t) (hd : ds[j]? = some d) : Sized P t d := fun q hq => by
  have := List.all_eq_true.1 h q (DataW.weights_mem_each ht hd q hq)
  simpa using this
end
theorem open_texts {t : TypeId} {H : Type} {enc : TypeId × Value → H} {w : World} {base : Nat} {spare : Nat → Bool} {held : Bool} {r : Reach} {b0 : Nat} {v : Value} {dd : DataW H} {ps : List MemPlace} (ht : Tryd.prog.underlying t = some (.slice 9)) (hval : Value.okWide Tryd.prog w r b0 t v) (hd : DataW.Trod enc Tryd.prog w base spare held t v dd ps) (hz : Sized Tryd.prog t dd) :
    ∃ A n c xs, v = .slice A n c ∧ Kd.string.C w A n xs ∧ n ≤ c ∧ c ≤ 9223372036854775807 ∧ ∀ x ∈ xs, x.size ≤ 140737488355328 :=
  arg_rowR ht (by kernel_rfl) (opensR_string Tryd.underlying9) hval hd hz
end Go.Proofs.YtimaliamidgflaaDoor

namespace Go.Proofs.YtimaliamidgflaaDoor
open Go Go.RowKit Go.Proofs.YtimaliamidgflaaDoorW.PrintWords Go.ChangeShapes Go.WideShapes
set_option linter.unusedVariables false
set_option linter.unusedSimpArgs false
set_option maxRecDepth 100000
set_option maxHeartbeats 1000000

/-- So many numbers in a row of cells. -/
def arrK (n : Nat) (k : IntKind) : Kd (List Int) where
  sz := n
  E := []
  K := fun _ xs cs => xs.length = n ∧ cs = nums k xs
  M := fun _ _ _ xs cs => xs.length = n ∧ cs = nums k xs
  K_len := by
    rintro w x cs ⟨h, rfl⟩
    rw [nums_length, h]
  K_one := by
    rintro w x cs ⟨h, rfl⟩ u hu
    obtain ⟨y, -, rfl⟩ := List.mem_map.1 hu
    rfl
  K_below := fun _ h => h
  K_of_M := fun h => h
  M_mono := fun _ h => h
  M_bound := fun h => h
  M_move := fun _ h => h
  M_lower := fun _ h => h
theorem nums_of (k : IntKind) (wf : Int → Prop) (cs : List Value) (h : ∀ u ∈ cs, ∃ v, u = .int k v ∧ wf v) : ∃ ys, cs = nums k ys ∧ ∀ y ∈ ys, wf y := by
  induction cs with
  | nil => exact ⟨[], rfl, fun y hy => by cases hy⟩
  | cons u cs ih =>
    obtain ⟨v, rfl, hv⟩ := h u (by simp)
    obtain ⟨ys, rfl, hys⟩ := ih fun u hu => h u (List.mem_cons_of_mem _ hu)
    refine ⟨v :: ys, rfl, fun y hy => ?_⟩
    rcases List.mem_cons.1 hy with rfl | hy
    · exact hv
    · exact hys y hy
theorem opens_arr {P : Program} {t e : TypeId} {n : Nat} {k : IntKind} (ht : P.underlying t = some (.array n e)) (he : P.underlying e = some (.int k)) (hc : P.cellsOf e = 1) (hct : P.cellsOf t = n) : Opens P t (arrK n k) (fun xs => ∀ x ∈ xs, (Lit.int k x).wf = true) := fun {H enc w base spare held fuel cs x} h => by
  obtain ⟨xs, m, -, -, hl, hn, hf⟩ := DataW.trod_array ht h
  rw [hct] at hl
  obtain ⟨ys, rfl, hys⟩ := nums_of k (fun x => (Lit.int k x).wf = true) cs fun u hu => by
    obtain ⟨i, hi⟩ := List.getElem?_of_mem hu
    have hi' : i < cs.length := (List.getElem?_eq_some_iff.1 hi).1
    have h1 := hf i (by omega)
    rw [hc, Nat.mul_one, List.drop_eq_getElem_cons hi', List.take_succ_cons, List.take_zero, List.getElem?_eq_getElem (by omega)] at h1
    obtain ⟨v, e1, -, hv⟩ := DataW.trod_int he h1
    have e2 : cs[i] = .int k v := by simpa using e1
    rw [List.getElem?_eq_getElem hi'] at hi
    exact ⟨v, (Option.some.inj hi).symm.trans e2, hv⟩
  rw [nums_length] at hl
  exact ⟨ys, ⟨hl, rfl⟩, hys⟩
abbrev PatT := ByteArray × Bool × ((Bool × List Int) × Int) × Int
def addrK : Kd (Bool × List Int) := Kd.pair Kd.bool (arrK 16 .u8)
def netK : Kd ((Bool × List Int) × Int) := Kd.pair addrK (Kd.int .i64)
def patK : Kd PatT := Kd.pair Kd.string (Kd.pair Kd.bool (Kd.pair netK (Kd.int .i64)))
theorem opens_addr : Opens Tryd.prog 31 addrK (fun _ => True) :=
  opens_wf (opens_struct Tryd.underlying31 (by kernel_rfl) (opensF_cons rfl (by kernel_rfl) (opens_bool Tryd.underlying4) (opensF_one rfl (by kernel_rfl) (opens_arr Tryd.underlying29 Tryd.underlying5 (by kernel_rfl) (by kernel_rfl))))) (fun _ _ => trivial)
theorem opens_net : Opens Tryd.prog 33 netK (fun _ => True) :=
  opens_wf (opens_struct Tryd.underlying33 (by kernel_rfl) (opensF_cons rfl (by kernel_rfl) opens_addr (opensF_one rfl (by kernel_rfl) (opens_int Tryd.underlying3)))) (fun _ _ => trivial)
theorem opens_pat : OpensR Tryd.prog 35 patK (fun x => x.1.size ≤ 140737488355328) :=
  opensR_wf (opensR_struct Tryd.underlying35 (by kernel_rfl) (opensFR_cons rfl (by kernel_rfl) (opensR_string Tryd.underlying9) (opensFR_cons rfl (by kernel_rfl) (Opens.sized (opens_bool Tryd.underlying4)) (opensFR_cons rfl (by kernel_rfl) (Opens.sized opens_net) (opensFR_one rfl (by kernel_rfl) (Opens.sized (opens_int Tryd.underlying3))))))) (fun _ h => h.1)
theorem open_pats {H : Type} {enc : TypeId × Value → H} {w : World} {base : Nat} {spare : Nat → Bool} {held : Bool} {r : Reach} {b0 : Nat} {v : Value} {dd : DataW H} {ps : List MemPlace} (hval : Value.okWide Tryd.prog w r b0 22 v) (hd : DataW.Trod enc Tryd.prog w base spare held 22 v dd ps) (hz : Sized Tryd.prog 22 dd) :
    ∃ A n c xs, v = .slice A n c ∧ patK.C w A n xs ∧ n ≤ c ∧ c ≤ 9223372036854775807 ∧ ∀ x ∈ xs, x.1.size ≤ 140737488355328 :=
  arg_rowR Tryd.underlying22 (by kernel_rfl) opens_pat hval hd hz
/-- A pattern that is read. -/
theorem at_pat {w : World} {A : Option Addr} {n : Nat} {xs : List PatT} (h : patK.C w A n xs) (i : Nat) (hi : i < n) : ∃ ad s b id, A = some ad ∧ (∃ net, xs[i]? = some (s, b, net, id)) ∧ w.cell? (ad.add (i * 21)) = some (.string s) ∧ w.cell? ⟨(ad.add (i * 21)).block, (ad.add (i * 21)).off + 1, none⟩ = some (.bool b) ∧ w.cell? ⟨(ad.add (i * 21)).block, (ad.add (i * 21)).off + 20, none⟩ = some (.int .i64 id) := by
  obtain ⟨ad, cs, e, -, hK, hc⟩ := Kd.C_get h (⟨#[]⟩, false, ((false, []), 0), 0) (i : Int) (by omega) (by omega)
  rw [Int.toNat_natCast] at hK hc
  obtain ⟨hlen, -⟩ := h
  have hx : xs[i]? = some (xs.getD i (⟨#[]⟩, false, ((false, []), 0), 0)) := by rw [List.getD_eq_getElem?_getD, List.getElem?_eq_getElem (by omega)]; rfl
  obtain ⟨⟨s, b, net, id⟩, hv⟩ : ∃ y, xs.getD i (⟨#[]⟩, false, ((false, []), 0), 0) = y := ⟨_, rfl⟩
  rw [hv] at hK hx
  obtain ⟨c0, c1, rfl, h0, c2, c3, rfl, h2, c4, c5, rfl, h4, h5⟩ := hK
  have hl4 := netK.K_len h4
  obtain rfl : c0 = [.string s] := h0
  obtain rfl : c2 = [.bool b] := h2
  obtain rfl : c5 = [.int .i64 id] := h5
  have hl : c4.length = 18 := hl4
  refine ⟨ad, s, b, id, e, ⟨net, hx⟩, hc 0 _ rfl, by rw [← add_field _ _ _ (by decide)]; exact hc 1 _ rfl, by rw [← add_field _ _ _ (by decide)]; exact hc 20 _ (by simp [hl])⟩
/-! whether they are few -/
def fewB (xs : List PatT) : Bool := decide (xs.length ≤ 40) && decide ((xs.map fun x => x.1.size).sum ≤ 2000)
theorem sum_take (xs : List PatT) (k : Nat) (s : ByteArray) (b : Bool) (id : Int) (h : ∃ net, xs[k]? = some (s, b, net, id)) : ((xs.take (k + 1)).map fun x => x.1.size).sum = ((xs.take k).map fun x => x.1.size).sum + s.size := by
  obtain ⟨net, h⟩ := h
  have hk := (List.getElem?_eq_some_iff.1 h).1
  have e := (List.getElem?_eq_some_iff.1 h).2
  rw [List.take_succ_eq_append_getElem hk, List.map_append, List.sum_append, e]
  simp
theorem sum_le (xs : List PatT) (h : ∀ x ∈ xs, x.1.size ≤ 140737488355328) : (xs.map fun x => x.1.size).sum ≤ xs.length * 140737488355328 := by
  induction xs with
  | nil => simp
  | cons x xs ih =>
    have h1 := ih fun y hy => h y (List.mem_cons_of_mem _ hy)
    have h2 := h x (by simp)
    simp only [List.map_cons, List.sum_cons, List.length_cons]
    omega
theorem few_calls (A : Option Addr) (n c : Nat) (xs : List PatT) (w : World) (h : patK.C w A n xs) (hx : ∀ x ∈ xs, x.1.size ≤ 140737488355328) :
    Calls Tryd.prog 16 #[.slice A n c] w fun e w' => e = .returned (.bool (fewB xs)) ∧ w = w' := by
  obtain rfl := (C_len h).1
  have hm := (C_len h).2
  have HC := Kp.mk h
  have HX := Kp.mk hx
  clear h hx
  by_cases h40 : xs.length ≤ 40
  · have hfew : fewB xs = decide ((xs.map fun x => x.1.size).sum ≤ 2000) := by simp [fewB, h40]
    rw [hfew]
    obtain ⟨S, hS⟩ : ∃ S, (xs.map fun x => x.1.size).sum = S := ⟨_, rfl⟩
    rw [hS]
    have HSS := Kp.mk hS
    clear hfew hS
    go_enter Tryd.func16, Tryd.ntmps16
    go_wp2_with (fail)
    go_loopw [3, 4] (fun s i wr => ∃ k m : Nat, k ≤ xs.length ∧ i = .int .i64 (k : Int) ∧ s = .int .i64 (m : Int) ∧ Kp (((xs.take k).map fun x => x.1.size).sum = m) ∧ m ≤ k * 140737488355328 ∧ Kp (w = wr)) (fun _ i _ => xs.length - (intOf i).toNat)
    case atStart => exact ⟨0, 0, Nat.zero_le _, rfl, rfl, ⟨rfl⟩, Nat.zero_le _, ⟨rfl⟩⟩
    case round =>
      obtain ⟨k, m, hk, rfl, rfl, HM, hmk, HWX⟩ := hrel
      obtain rfl := HWX.out
      clear HWX
      by_cases hlt : k < xs.length
      · obtain ⟨ad, s, b, id, rfl, hg, c0, -, -⟩ := at_pat HC.out k hlt
        have hst := sum_take xs k s b id hg
        rw [HM.out] at hst
        have hsz : s.size ≤ 140737488355328 := by
          obtain ⟨net, hg⟩ := hg
          exact HX.out _ (List.mem_of_getElem? hg)
        have HST := Kp.mk hst
        clear hst hg
        go_wp2
        exact ⟨⟨k + 1, m + s.size, by omega, by go_num, by go_num, HST, by omega, ⟨trivial⟩⟩, by simp [intOf]; omega⟩
      · obtain rfl : k = xs.length := by omega
        rw [List.take_length] at HM
        obtain rfl : m = S := HM.out.symm.trans HSS.out
        have b1 : decide ((xs.length : Int) ≤ 40) = true := by simp; omega
        go_wp2
        go_ret
        exact ⟨by simp; omega, rfl⟩
  · have hfew : fewB xs = false := by simp [fewB, h40]
    rw [hfew]
    clear hfew
    go_enter Tryd.func16, Tryd.ntmps16
    go_wp2_with (fail)
    go_loopw [3, 4] (fun s i wr => ∃ (k : Nat) (m : Int), k ≤ xs.length ∧ i = .int .i64 (k : Int) ∧ s = .int .i64 m ∧ Kp (w = wr)) (fun _ i _ => xs.length - (intOf i).toNat)
    case atStart => exact ⟨0, 0, Nat.zero_le _, rfl, rfl, ⟨rfl⟩⟩
    case round =>
      obtain ⟨k, m, hk, rfl, rfl, HWX⟩ := hrel
      obtain rfl := HWX.out
      clear HWX
      by_cases hlt : k < xs.length
      · obtain ⟨ad, s, b, id, rfl, hg, c0, -, -⟩ := at_pat HC.out k hlt
        clear hg
        go_wp2
        exact ⟨⟨k + 1, _, by omega, by go_num, rfl, ⟨trivial⟩⟩, by simp [intOf]; omega⟩
      · obtain rfl : k = xs.length := by omega
        have b1 : decide ((xs.length : Int) ≤ 40) = false := by simp; omega
        go_wp2
        go_ret
        exact ⟨rfl, rfl⟩
end Go.Proofs.YtimaliamidgflaaDoor
