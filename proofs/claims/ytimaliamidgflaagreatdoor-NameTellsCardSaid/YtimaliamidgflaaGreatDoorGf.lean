/-
  Several texts of this seat in one: Frame, Open.
-/
import Derived.Test.YtimaliamidgflaaGreatDoorRows
import Derived.Test.YtimaliamidgflaaGreatDoorGa
import Derived.ProofKit
import Derived.OpenShut
import Derived.LaidMore
import Derived.LaidLaws
import Derived.LaidHandle
import Derived.Lay
import Derived.SizedLaws
import Derived.HandedShaped
import Derived.Shelf.Vars
import Derived.Stop.Joined
import Derived.DataElems
import Derived.Deep.Slices
import Derived.WideShapes
namespace Go.Proofs.YtimaliamidgflaaGreatDoor
open Go Go.ChangeShapes Go.WideShapes Go.ChangeAt Go.RowKit
set_option maxRecDepth 100000

theorem own : ownKnob Tryz.prog.godebug = none := by kernel_rfl

section
variable {H : Type} {enc : TypeId × Value → H}
/-- The wrap: what the listed variables hold, and the world's shape, are handed to the contract. -/
theorem returnsIn_kept {a : Assume} {C : Checked} {os : Os} {f : FuncId} {fn : Func} {s : ChangeSpec} {conds : List PathCond} {apart fresh handsOn again : Bool} {X : World → Array Value → Prop}
    (hX : ∀ (w w' : World) (args : Array Value), w.heap = w'.heap → X w args → X w' args)
    (own : ownKnob C.prog.godebug = none) (started : os.Started) (noInit : C.prog.inits.idxOf? f = none) (hfn : C.prog.funcs[f]? = some fn)
    (witness : ∃ (w : World) (tape : Tape) (i : Input), w.os = os ∧ (w.forCall tape i).Shaped C.prog ∧ i.vars = [] ∧ Input.okWide C.prog (w.forCall tape i) .any w.heap.size f i ∧
      ((s.pre enc C.prog fn conds apart (w.forCall tape i).memory i.args ∧ X (w.forCall tape i).memory i.args) ∧ sizedMet enc C.prog fn (OpenSpec.ofChange s) apart (w.forCall tape i).memory i.args) ∧ a.holds C.prog (lone (Frame.enter C.prog f i.args .normal) [] (w.forCall tape i)))
    (contract : ∀ (W : World) (base : Nat) (args : Array Value) (ds gs : List (DataW H)) (before : List MemPlace),
      (∀ (j : Nat) t v, fn.params[j]? = some t → args[j]? = some v → Value.okWide C.prog W .any base t v) →
      DataW.Whole enc C.prog fn.params.toList s.vars apart W args.toList ds gs before →
      (DataW.weightsEach C.prog (fn.params.toList ++ s.plain.varTypes C.prog) (ds ++ gs)).all (· ≤ reachBytes) = true → X W args → W.ShapedOpen C.prog →
      Calls C.prog f args W fun e W' => ∃ v, e = .returned v ∧ s.post enc C.prog fn apart fresh handsOn again W args v W') :
    ReturnsInHanded a C os f .any (fun w args => (s.pre enc C.prog fn conds apart w args ∧ X w args) ∧ sizedMet enc C.prog fn (OpenSpec.ofChange s) apart w args) (s.post enc C.prog fn apart fresh handsOn again) := by
  refine returnsInHanded_of_calls own started noInit witness ?_
  intro w tape i _ hsh _ hok hpre _
  obtain ⟨_, _, _, fn', hfn', _, _, _, _, hval⟩ := hok
  have e : fn' = fn := Option.some.inj (hfn'.symm.trans hfn)
  subst e
  obtain ⟨⟨⟨ds, gs, before, hw, _⟩, hx⟩, hz⟩ := hpre
  have hw' := DataW.Whole.of_heap (w' := w.forCall tape i) (by rfl) hw
  refine (contract (w.forCall tape i) w.heap.size i.args ds gs before hval hw' (hz.weights hw) (hX _ _ _ (by rfl) hx) hsh).mono fun e W' ⟨v, he, hp⟩ => ?_
  subst he
  exact ChangeSpec.post_blind hp
end

/-! ### the arguments read behind the call as they read before -/
section
variable {H : Type} {enc : TypeId × Value → H}
theorem trodAll_below {P : Program} (hl : laidOutB P = true) {W W' : World} (hb : Below W.heap.size W W') : ∀ (ts : List TypeId) (vs : List Value) (ds : List (DataW H)) (p : List MemPlace),
    (ts.all fun t => P.readableRec t && decide (t < P.types.size)) = true → DataW.TrodAll enc P W 0 (fun _ => true) true ts vs ds p → (∀ x ∈ p, x.block < W.heap.size) →
    DataW.TrodAll enc P W' 0 (fun b => decide (b < W.heap.size)) true ts vs ds p
  | [], _, _, _, _, h, _ => by
    obtain ⟨rfl, rfl, rfl⟩ := trodAll_nil h
    exact trodAll_mk0
  | t :: ts, vs, ds, p, ha, h, hlt => by
    simp only [List.all_cons, Bool.and_eq_true, decide_eq_true_eq] at ha
    obtain ⟨v, vr, d, dr, q, r, rfl, rfl, rfl, h0, hr⟩ := trodAll_cons h
    exact trodAll_cons_mk (Below.trod hl ha.1.1 ha.1.2 h0 hb (fun x hx => hlt x (List.mem_append_left _ hx))) (trodAll_below hl hb ts vr dr r ha.2 hr (fun x hx => hlt x (List.mem_append_right _ hx)))
/-- What a row asks behind a call that answered true and made memory of its own alone. -/
theorem post_kept {C : Checked} {fn : Func} {s : ChangeSpec} {W W' : World} {args : Array Value} {ds gs : List (DataW H)} {before : List MemPlace} {b : TypeId} (hl : laidOutB C.prog = true) (hvars : s.vars = []) (hres : fn.resultTypes = #[b]) (hbool : C.prog.underlying b = some .bool)
    (hW : DataW.Whole enc C.prog fn.params.toList s.vars false W args.toList ds gs before) (hr : (s.fn H (ds ++ gs)).results = [.lit (.bool true)]) (ha : (s.fn H (ds ++ gs)).args = ds) (hv : (s.fn H (ds ++ gs)).vars = [])
    (hall : (fn.params.toList.all fun t => C.prog.readableRec t && decide (t < C.prog.types.size)) = true) (hb : Below W.heap.size W W') : s.post enc C.prog fn false true false false W args (.bool true) W' := by
  have hW' := hW
  obtain ⟨p, q, hA, hV, rfl, hfz, hnd⟩ := hW
  have hlt : ∀ x ∈ p, x.block < W.heap.size := fun x hx => hW'.lt x (List.mem_append_left _ hx)
  refine ⟨ds, gs, _, [], p, [], hW', ?_, ?_, ?_, hb.frame _, fun h => by cases h⟩
  · rw [hr, hres]
    exact trodAll_mk1 (shut_bool hbool true)
  · rw [ha]
    exact trodAll_below hl hb _ _ _ _ hall hA hlt
  · rw [hv, hvars]
    rfl
end
theorem wf_i64 {a : Int} (h : (Lit.int .i64 a).wf = true) : -9223372036854775808 ≤ a ∧ a ≤ 9223372036854775807 := by
  simpa [Lit.wf, IntKind.min, IntKind.max, IntKind.signed, IntKind.bits] using h
theorem wf_u8 {a : Int} (h : (Lit.int .u8 a).wf = true) : 0 ≤ a ∧ a ≤ 255 := by
  simpa [Lit.wf, IntKind.min, IntKind.max, IntKind.signed, IntKind.bits] using h
theorem laidOut : laidOutB Tryz.prog = true := by kernel_rfl

/-! ### the listed variables: the handle of the type 'error' -/
theorem et : Tryz.prog.globalNamed "errors.errorType" = some 0 := by kernel_rfl
theorem rtp : (Tryz.prog.cutTypes.find? (·.1 == "internal/reflectlite.rtype")).map (·.2) = some 107 := by kernel_rfl
theorem oneRow : ((List.range Tryz.prog.types.size).filter fun t => Tryz.prog.rowNamed t [101, 114, 114, 111, 114]) = [26] := by kernel_rfl

/-- The listed variables of the rows that meet errors.As. -/
def laidE : List (String × DataW Unit) := [("unicode/utf8.acceptRanges", Rows.laid_unicode_utf8_acceptRanges), ("errors.errorType", Rows.laid_errors_errorType), ("unicode/utf8.first", Rows.laid_unicode_utf8_first)]
theorem laidE_split : (laidE.filter fun x => x.2.handleName?.isSome) = [("errors.errorType", Rows.laid_errors_errorType)] := by kernel_rfl
def laidP : List (String × DataW Unit) := [("unicode/utf8.acceptRanges", Rows.laid_unicode_utf8_acceptRanges), ("unicode/utf8.first", Rows.laid_unicode_utf8_first)]
theorem laidE_rest : (laidE.filter fun x => x.2.handleName?.isNone) = laidP := by kernel_rfl

theorem errT_of_laid {W : World} (h : laidMetH Tryz.prog laidE W) : ErrT W := by
  have h2 : handlesMet Tryz.prog [("errors.errorType", Rows.laid_errors_errorType)] W := by
    unfold laidMetH at h
    rw [laidE_split] at h
    exact h.2
  obtain ⟨name, u, ty, e1, e2, e3, e4, e5⟩ := h2 _ (List.mem_singleton.2 rfl)
  have en : name = [101, 114, 114, 111, 114] := (Option.some.inj e1).symm
  subst en
  obtain rfl := Option.some.inj (rtp.symm.trans e2)
  have hm : ty ∈ (List.range Tryz.prog.types.size).filter fun t => Tryz.prog.rowNamed t [101, 114, 114, 111, 114] := List.mem_filter.2 ⟨List.mem_range.2 e3, e4⟩
  rw [oneRow] at hm
  obtain rfl := List.mem_singleton.1 hm
  have hh : typeHandle Tryz.prog 26 = .pointer (some ⟨4, 26, none⟩) := by kernel_rfl
  rw [hh] at e5
  unfold ErrT
  simpa using World.var?_cell et e5 0
theorem maxLen_of_shape {W : World} (h : W.ShapedOpen Tryz.prog) : ∃ m, W.cell? ⟨1, 0, none⟩ = some (.int .i64 m) :=
  cell_of_shapedOpen_int (g := 1) (t := 3) (zero := #[.int .i64 0]) (k := .i64) h (of_decide_eq_true (by kernel_rfl)) (by kernel_rfl) rfl (by kernel_rfl) (by kernel_rfl) (by kernel_rfl)
theorem env_of {W : World} (h : laidMetH Tryz.prog laidE W) (hs : W.ShapedOpen Tryz.prog) : Env W := ⟨errT_of_laid h, maxLen_of_shape hs⟩

/-- A world in which all listed variables lie. -/
noncomputable def handleWorld (os : Os) : World :=
  let w0 := World.holding Tryz.prog os ⟨#[], #[], []⟩
  { w0 with heap := w0.heap.modify 0 fun
      | .cells _ t frozen => .cells #[.iface 107 (.agg #[.pointer (some ⟨4, 26, none⟩)])] t frozen
      | o => o }
noncomputable def laidWorld (os : Os) : World := (handleWorld os).layVars Tryz.prog laidP
theorem laidWorld_os (os : Os) : (laidWorld os).os = os := (World.layVars_os _ _ _).trans rfl
theorem laidWorld_met (os : Os) (args : Array Value) : laidMetH Tryz.prog laidE ((laidWorld os).forCall (fun _ _ => 0) ⟨#[], args, []⟩).memory := by
  have hh : handleAtB Tryz.prog ((laidWorld os).forCall (fun _ _ => 0) ⟨#[], args, []⟩).memory ("errors.errorType", Rows.laid_errors_errorType) = true := by kernel_rfl
  refine laidMetH_of_parts ?_ (by rw [laidE_split, List.all_cons, hh]; rfl)
  rw [laidE_rest]
  have e1 : (laidP.filter fun x => (laidP.map (·.1)).contains x.1) = laidP := List.filter_eq_self.2 fun x hx => List.contains_iff_mem.2 (List.mem_map.2 ⟨x, hx, rfl⟩)
  have e2 : (laidP.filter fun x => !(laidP.map (·.1)).contains x.1) = [] := List.filter_eq_nil_iff.2 fun x hx => by rw [List.contains_iff_mem.2 (List.mem_map.2 ⟨x, hx, rfl⟩)]; simp
  have h : laidMet Tryz.prog laidP (laidWorld os) := laidMet_layVars (w0 := handleWorld os) (laidP.map (·.1)) [] (by rw [e1]; rfl) (by rw [e1]; kernel_rfl) (by rw [e1]; kernel_rfl) (by rw [e2]; exact LaidIn.none)
  exact h.of_heap (by simp [World.memory, World.forCall, Input.heap])
end Go.Proofs.YtimaliamidgflaaGreatDoor

namespace Go.Proofs.YtimaliamidgflaaGreatDoor
open Go Go.RowKit Go.Proofs.YtimaliamidgflaaGreatDoorW.PrintWords Go.ChangeShapes Go.WideShapes

set_option maxRecDepth 100000

theorem add_then (a : Addr) (i j : Nat) : (a.add i).add j = a.add (i + j) := Go.Addr.add_add a i j
/-- What reads as data at a type is one of a kind. -/
def Opens (P : Program) {α : Type} (t : TypeId) (d : Kd α) (wf : α → Prop) : Prop :=
  ∀ {H : Type} {enc : TypeId × Value → H} {w : World} {base : Nat} {spare : Nat → Bool} {held : Bool} {fuel : Nat} {cs : List Value} {x : DataW H × List MemPlace},
    DataW.trod enc P w base spare held fuel t cs = some x → ∃ y, d.K w y cs ∧ wf y
section
variable {P : Program} {t e : TypeId} {α β : Type}
theorem opens_int {k : IntKind} (ht : P.underlying t = some (.int k)) : Opens P t (Kd.int k) (fun n => (Lit.int k n).wf = true) := fun h => by
  obtain ⟨n, rfl, -, hw⟩ := DataW.trod_int ht h
  exact ⟨n, rfl, hw⟩
theorem opens_bool (ht : P.underlying t = some .bool) : Opens P t Kd.bool (fun _ => True) := fun h => by
  obtain ⟨n, rfl, -⟩ := DataW.trod_bool ht h
  exact ⟨n, rfl, trivial⟩
theorem opens_string (ht : P.underlying t = some .string) : Opens P t Kd.string (fun s => s.size ≤ 9223372036854775807) := fun h => by
  obtain ⟨s, rfl, -, hs⟩ := DataW.trod_string ht h
  exact ⟨s, rfl, hs⟩
theorem open_rows {d : Kd α} {wf : α → Prop} (ht : P.underlying t = some (.slice e)) (hc : P.cellsOf e = d.sz) (ho : Opens P e d wf) {H : Type} {enc : TypeId × Value → H} {w : World} {base : Nat} {spare : Nat → Bool} {held : Bool} {fuel : Nat} {cs : List Value} {x : DataW H × List MemPlace}
    (h : DataW.trod enc P w base spare held fuel t cs = some x) : ∃ A c xs, cs = [.slice A xs.length c] ∧ xs.length ≤ c ∧ c ≤ 9223372036854775807 ∧ d.C w A xs.length xs ∧ ∀ y ∈ xs, wf y := by
  rcases Go.Deep.open_slice ht h with ⟨rfl, -⟩ | ⟨a, len, cap, m, n, D, Pl, rfl, hb, hl, hm, hmm, -, hx⟩
  · exact ⟨none, 0, [], rfl, Nat.le_refl _, by omega, ⟨rfl, by simp, fun h => by simp at h⟩, fun y hy => by cases hy⟩
  have hlm : len ≤ m := by rw [hmm]; split <;> omega
  have hall : ∀ i, i < len → ∃ y, ∃ cs', cs'.length = d.sz ∧ d.K w y cs' ∧ wf y ∧ ∀ j u, cs'[j]? = some u → w.cell? (a.add (i * d.sz + j)) = some u := by
    intro i hi
    obtain ⟨cs', h1, h2⟩ := hx i (by omega)
    obtain ⟨y, hK, hw⟩ := ho h2
    obtain ⟨-, hlen, hcell⟩ := World.cells?_some h1
    refine ⟨y, cs', d.K_len hK, hK, hw, fun j u hu => ?_⟩
    have hj : j < cs'.length := (List.getElem?_eq_some_iff.1 hu).1
    have := hcell j (by omega)
    rw [hu, add_then, hc] at this
    exact this
  obtain ⟨f, hf⟩ : ∃ f : Nat → Option α, ∀ i, i < len → ∃ y, f i = some y ∧ ∃ cs', cs'.length = d.sz ∧ d.K w y cs' ∧ wf y ∧ ∀ j u, cs'[j]? = some u → w.cell? (a.add (i * d.sz + j)) = some u := by
    refine ⟨fun i => if hi : i < len then some (Classical.choose (hall i hi)) else none, fun i hi => ⟨Classical.choose (hall i hi), by simp [hi], Classical.choose_spec (hall i hi)⟩⟩
  have hlen : ((List.range len).filterMap f).length = len := by
    have h : ∀ k, k ≤ len → ((List.range k).filterMap f).length = k := by
      intro k hk
      induction k with
      | zero => rfl
      | succ k ih =>
        obtain ⟨y, hy, -⟩ := hf k (by omega)
        rw [List.range_succ, List.filterMap_append, List.length_append, ih (by omega)]
        simp [hy]
    exact h len (Nat.le_refl _)
  have hget : ∀ i, i < len → ((List.range len).filterMap f)[i]? = f i := by
    have h : ∀ k, k ≤ len → ((List.range k).filterMap f).length = k ∧ ∀ i, i < k → ((List.range k).filterMap f)[i]? = f i := by
      intro k hk
      induction k with
      | zero => exact ⟨rfl, fun i hi => by omega⟩
      | succ k ih =>
        obtain ⟨h1, h2⟩ := ih (by omega)
        obtain ⟨y, hy, -⟩ := hf k (by omega)
        rw [List.range_succ, List.filterMap_append]
        refine ⟨by rw [List.length_append, h1]; simp [hy], fun i hi => ?_⟩
        by_cases he : i < k
        · rw [List.getElem?_append_left (by omega)]
          exact h2 i he
        · obtain rfl : i = k := by omega
          rw [List.getElem?_append_right (by omega), h1]
          simp [hy]
    exact (h len (Nat.le_refl _)).2
  obtain ⟨xs, hxs⟩ : ∃ xs, (List.range len).filterMap f = xs := ⟨_, rfl⟩
  rw [hxs] at hlen hget
  subst hlen
  refine ⟨some a, cap, xs, rfl, hl, by simpa [maxLen] using hm, ⟨rfl, Nat.le_trans hl (by simpa [maxLen] using hm), fun _ => ⟨a, rfl, fun j p hp => ?_⟩⟩, fun y hy => ?_⟩
  · have hj : j < xs.length := (List.getElem?_eq_some_iff.1 hp).1
    obtain ⟨y, hy, cs', h1, h2, -, h4⟩ := hf j hj
    rw [hget j hj, hy] at hp
    obtain rfl := Option.some.inj hp
    exact ⟨cs', h1, h2, fun i u hu => by rw [← h4 i u hu]⟩
  · obtain ⟨j, hj, hjy⟩ := List.getElem_of_mem hy
    obtain ⟨y', hy', cs', -, -, hw, -⟩ := hf j hj
    have := hget j hj
    rw [hy', List.getElem?_eq_getElem hj, hjy] at this
    obtain rfl := Option.some.inj this
    exact hw
theorem opens_slice {d : Kd α} {wf : α → Prop} (ht : P.underlying t = some (.slice e)) (hc : P.cellsOf e = d.sz) (ho : Opens P e d wf) : Opens P t (Kd.slice e d) (fun xs => ∀ y ∈ xs, wf y) := fun h => by
  obtain ⟨A, c, xs, rfl, h1, h2, h3, h4⟩ := open_rows ht hc ho h
  exact ⟨xs, ⟨A, c, rfl, h1, h3⟩, h4⟩
theorem opens_iso {d : Kd α} {wf : α → Prop} {f : β → α} (g : α → β) (hg : ∀ x, f (g x) = x) (ho : Opens P t d wf) : Opens P t (Kd.iso d f) (fun y => wf (f y)) := fun h => by
  obtain ⟨y, hK, hw⟩ := ho h
  refine ⟨g y, ?_, by show wf (f (g y)); rw [hg]; exact hw⟩
  show d.K _ (f (g y)) _
  rw [hg]
  exact hK
theorem opens_wf {d : Kd α} {wf wf' : α → Prop} (ho : Opens P t d wf) (hw : ∀ x, wf x → wf' x) : Opens P t d wf' := fun h => by
  obtain ⟨y, hK, h2⟩ := ho h
  exact ⟨y, hK, hw y h2⟩
/-- The fields of a struct, from a cell on. -/
def OpensF (P : Program) {α : Type} (o : Nat) (fs : List Field) (d : Kd α) (wf : α → Prop) : Prop :=
  ∀ {H : Type} {enc : TypeId × Value → H} {w : World} {base : Nat} {spare : Nat → Bool} {held : Bool} {n : Nat} {cs : List Value},
    (∀ f ∈ fs, ∃ y, DataW.trod enc P w base spare held n f.type ((cs.drop f.offset).take (P.cellsOf f.type)) = some y) → ∃ y, d.K w y ((cs.drop o).take d.sz) ∧ wf y
theorem opensF_one {o : Nat} {f : Field} {d : Kd α} {wf : α → Prop} (hof : f.offset = o) (hc : P.cellsOf f.type = d.sz) (ho : Opens P f.type d wf) : OpensF P o [f] d wf := fun h => by
  obtain ⟨y, hy⟩ := h f (List.mem_singleton.2 rfl)
  rw [hof, hc] at hy
  exact ho hy
theorem opensF_cons {o : Nat} {f : Field} {fs : List Field} {d : Kd α} {d' : Kd β} {wf : α → Prop} {wf' : β → Prop} (hof : f.offset = o) (hc : P.cellsOf f.type = d.sz) (ho : Opens P f.type d wf) (hr : OpensF P (o + d.sz) fs d' wf') : OpensF P o (f :: fs) (Kd.pair d d') (fun x => wf x.1 ∧ wf' x.2) := fun h => by
  obtain ⟨y, hy⟩ := h f (List.mem_cons_self ..)
  rw [hof, hc] at hy
  obtain ⟨a, ha, hwa⟩ := ho hy
  obtain ⟨b, hb, hwb⟩ := hr (fun f hf => h f (List.mem_cons_of_mem _ hf))
  refine ⟨(a, b), ⟨_, _, ?_, ha, hb⟩, hwa, hwb⟩
  show List.take (d.sz + d'.sz) _ = _
  rw [List.take_add, List.drop_drop]
theorem opens_struct {fs : Array Field} {d : Kd α} {wf : α → Prop} (ht : P.underlying t = some (.struct fs)) (hc : P.cellsOf t = d.sz) (ho : OpensF P 0 fs.toList d wf) : Opens P t d wf := fun h => by
  obtain ⟨xs, n, _, rfl, hl, hlen, hf⟩ := DataW.trod_struct ht h
  obtain ⟨y, hK, hw⟩ := ho (fun f hfm => by
    obtain ⟨i, hi⟩ := List.getElem?_of_mem hfm
    have hi' : i < xs.length := by
      have := (List.getElem?_eq_some_iff.1 hi).1
      rw [Array.length_toList] at this
      omega
    rw [Array.getElem?_toList] at hi
    exact ⟨_, (hf i f hi).trans (List.getElem?_eq_getElem hi')⟩)
  rw [List.drop_zero, List.take_of_length_le (by omega)] at hK
  exact ⟨y, hK, hw⟩
end
section
variable {P : Program} {H : Type} {enc : TypeId × Value → H} {w : World} {base : Nat} {spare : Nat → Bool} {held : Bool} {r : Reach} {b0 : Nat} {v : Value} {dd : DataW H} {ps : List MemPlace}
/-- A row handed in. -/
theorem arg_row {t e : TypeId} {α : Type} {d : Kd α} {wf : α → Prop} (ht : P.underlying t = some (.slice e)) (hc : P.cellsOf e = d.sz) (ho : Opens P e d wf) (hval : Value.okWide P w r b0 t v) (hd : DataW.Trod enc P w base spare held t v dd ps) :
    ∃ A n c xs, v = .slice A n c ∧ d.C w A n xs ∧ n ≤ c ∧ c ≤ 9223372036854775807 ∧ ∀ y ∈ xs, wf y := by
  obtain ⟨a, l, c, rfl⟩ := okWide_slice ht hval
  obtain ⟨fuel, hf⟩ := hd
  obtain ⟨A, c', xs, h1, h2, h3, h4, h5⟩ := open_rows ht hc ho hf
  simp [Value.cells] at h1
  obtain ⟨rfl, rfl, rfl⟩ := h1
  exact ⟨_, _, _, xs, rfl, h4, h2, h3, h5⟩
end
theorem open_bytes {t : TypeId} {H : Type} {enc : TypeId × Value → H} {w : World} {base : Nat} {spare : Nat → Bool} {held : Bool} {r : Reach} {b0 : Nat} {v : Value} {dd : DataW H} {ps : List MemPlace} (ht : Tryz.prog.underlying t = some (.slice 5)) (hval : Value.okWide Tryz.prog w r b0 t v) (hd : DataW.Trod enc Tryz.prog w base spare held t v dd ps) :
    ∃ A n c xs, v = .slice A n c ∧ (Kd.int .u8).C w A n xs ∧ n ≤ c ∧ c ≤ 9223372036854775807 ∧ ∀ x ∈ xs, 0 ≤ x ∧ x < 256 := by
  obtain ⟨A, n, c, xs, h1, h2, h3, h4, h5⟩ := arg_row ht (by kernel_rfl) (opens_int Tryz.underlying5) hval hd
  refine ⟨A, n, c, xs, h1, h2, h3, h4, fun x hx => ?_⟩
  have h : (0 : Int) ≤ x ∧ x ≤ 255 := by simpa [Lit.wf, IntKind.min, IntKind.max, IntKind.signed, IntKind.bits] using h5 x hx
  omega
end Go.Proofs.YtimaliamidgflaaGreatDoor
