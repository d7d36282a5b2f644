/-
  Several texts of this seat in one: OpenA, OpenRec, OpenQu, OpenR, OpenS.
-/
import Derived.Test.YtlkneoednkhleaaGreatDoorYOpen
import Derived.Test.YtlkneoednkhleaaGreatDoorYGs
import Derived.SizedLaws
namespace Go.Proofs.YtlkneoednkhleaaGreatDoor
open Go Go.RowKit Go.Proofs.YtlkneoednkhleaaGreatDoorW.PrintWords Go.ChangeShapes Go.WideShapes
set_option linter.unusedVariables false
set_option linter.unusedSimpArgs false
set_option maxRecDepth 100000
set_option maxHeartbeats 1000000

/-- So many numbers in a row of cells. -/
def arrK (n : Nat) (k : IntKind) : Kd (List Int) where
  sz := n
  E := []
  K := fun _ xs cs => xs.length = n ∧ cs = nums k xs
  M := fun _ _ _ xs cs => xs.length = n ∧ cs = nums k xs
  K_len := by
    rintro w x cs ⟨h, rfl⟩
    rw [nums_length, h]
  K_one := by
    rintro w x cs ⟨h, rfl⟩ u hu
    obtain ⟨y, -, rfl⟩ := List.mem_map.1 hu
    rfl
  K_below := fun _ h => h
  K_of_M := fun h => h
  M_mono := fun _ h => h
  M_bound := fun h => h
  M_move := fun _ h => h
  M_lower := fun _ h => h
theorem nums_of (k : IntKind) (wf : Int → Prop) (cs : List Value) (h : ∀ u ∈ cs, ∃ v, u = .int k v ∧ wf v) : ∃ ys, cs = nums k ys ∧ ∀ y ∈ ys, wf y := by
  induction cs with
  | nil => exact ⟨[], rfl, fun y hy => by cases hy⟩
  | cons u cs ih =>
    obtain ⟨v, rfl, hv⟩ := h u (by simp)
    obtain ⟨ys, rfl, hys⟩ := ih fun u hu => h u (List.mem_cons_of_mem _ hu)
    refine ⟨v :: ys, rfl, fun y hy => ?_⟩
    rcases List.mem_cons.1 hy with rfl | hy
    · exact hv
    · exact hys y hy
theorem opens_arr {P : Program} {t e : TypeId} {n : Nat} {k : IntKind} (ht : P.underlying t = some (.array n e)) (he : P.underlying e = some (.int k)) (hc : P.cellsOf e = 1) (hct : P.cellsOf t = n) : Opens P t (arrK n k) (fun xs => ∀ x ∈ xs, (Lit.int k x).wf = true) := fun {H enc w base spare held fuel cs x} h => by
  obtain ⟨xs, m, -, -, hl, hn, hf⟩ := DataW.trod_array ht h
  rw [hct] at hl
  obtain ⟨ys, rfl, hys⟩ := nums_of k (fun x => (Lit.int k x).wf = true) cs fun u hu => by
    obtain ⟨i, hi⟩ := List.getElem?_of_mem hu
    have hi' : i < cs.length := (List.getElem?_eq_some_iff.1 hi).1
    have h1 := hf i (by omega)
    rw [hc, Nat.mul_one, List.drop_eq_getElem_cons hi', List.take_succ_cons, List.take_zero, List.getElem?_eq_getElem (by omega)] at h1
    obtain ⟨v, e1, -, hv⟩ := DataW.trod_int he h1
    have e2 : cs[i] = .int k v := by simpa using e1
    rw [List.getElem?_eq_getElem hi'] at hi
    exact ⟨v, (Option.some.inj hi).symm.trans e2, hv⟩
  rw [nums_length] at hl
  exact ⟨ys, ⟨hl, rfl⟩, hys⟩
end Go.Proofs.YtlkneoednkhleaaGreatDoor

namespace Go.Proofs.YtlkneoednkhleaaGreatDoor
open Go Go.RowKit Go.Proofs.YtlkneoednkhleaaGreatDoorW.PrintWords Go.ChangeShapes Go.WideShapes
set_option linter.unusedVariables false
set_option linter.unusedSimpArgs false
set_option maxRecDepth 100000
set_option maxHeartbeats 1000000

theorem wf8 {x : Int} (h : (Lit.int .u8 x).wf = true) : 0 ≤ x ∧ x ≤ 255 := by
  simpa [Lit.wf, IntKind.min, IntKind.max, IntKind.signed, IntKind.bits] using h
theorem opens_ad : Opens Tryz.prog 26 adK Ad.ok := fun h => by
  obtain ⟨⟨v, ys⟩, hK, hw⟩ := (opens_struct Tryz.underlying26 (by kernel_rfl) (opensF_cons rfl (by kernel_rfl) (opens_bool Tryz.underlying4) (opensF_one rfl (by kernel_rfl) (opens_arr Tryz.underlying24 Tryz.underlying5 (by kernel_rfl) (by kernel_rfl))))) h
  obtain ⟨c0, c1, rfl, h0, hl, h1⟩ := hK
  obtain rfl : c0 = [.bool v] := h0
  have h1' : c1 = nums .u8 ys := h1
  subst h1'
  have hl' : ys.length = 16 := hl
  have hb : ∀ i, i < 16 → 0 ≤ ys.getD i 0 ∧ ys.getD i 0 ≤ 255 := fun i hi => wf8 (hw.2 _ (getD_mem ys 0 i (by omega)))
  refine ⟨⟨v, fun i => ys.getD i 0⟩, ?_, hb⟩
  match ys, hl' with
  | [x0, x1, x2, x3, x4, x5, x6, x7, x8, x9, x10, x11, x12, x13, x14, x15], _ => rfl
/-- What is asked of a record that is handed in. -/
structure Rec.fit (r : Rec) : Prop where
  ok : r.ok
  typ : -9223372036854775808 ≤ r.typ ∧ r.typ ≤ 9223372036854775807
  cls : -9223372036854775808 ≤ r.cls ∧ r.cls ≤ 9223372036854775807
  ttl : 0 ≤ r.ttl ∧ r.ttl ≤ 4294967295
  name : r.name.length ≤ 9223372036854775807
  tgt : r.tgt.length ≤ 9223372036854775807
theorem wf64 {x : Int} (h : (Lit.int .i64 x).wf = true) : -9223372036854775808 ≤ x ∧ x ≤ 9223372036854775807 := by
  simpa [Lit.wf, IntKind.min, IntKind.max, IntKind.signed, IntKind.bits] using h
theorem wf32 {x : Int} (h : (Lit.int .u32 x).wf = true) : 0 ≤ x ∧ x ≤ 4294967295 := by
  simpa [Lit.wf, IntKind.min, IntKind.max, IntKind.signed, IntKind.bits] using h
end Go.Proofs.YtlkneoednkhleaaGreatDoor

namespace Go.Proofs.YtlkneoednkhleaaGreatDoor
open Go Go.RowKit Go.Proofs.YtlkneoednkhleaaGreatDoorW.PrintWords Go.ChangeShapes Go.WideShapes
set_option linter.unusedVariables false
set_option linter.unusedSimpArgs false
set_option maxRecDepth 100000
set_option maxHeartbeats 1000000

/-- What is asked of a question that is handed in. -/
structure Qu.fit (q : Qu) : Prop where
  typ : -9223372036854775808 ≤ q.typ ∧ q.typ ≤ 9223372036854775807
  cls : -9223372036854775808 ≤ q.cls ∧ q.cls ≤ 9223372036854775807
  name : q.name.length ≤ 9223372036854775807
end Go.Proofs.YtlkneoednkhleaaGreatDoor

namespace Go.Proofs.YtlkneoednkhleaaGreatDoor
open Go Go.RowKit Go.Proofs.YtlkneoednkhleaaGreatDoorW.PrintWords Go.ChangeShapes Go.WideShapes
set_option linter.unusedVariables false
set_option linter.unusedSimpArgs false
set_option maxRecDepth 100000

def Sized {H : Type} (P : Program) (t : TypeId) (x : DataW H) : Prop := ∀ q ∈ x.weights P t, q ≤ reachBytes
/-- What reads as data at a type, and is no longer than memory reaches, is one of a kind. -/
def OpensR (P : Program) {α : Type} (t : TypeId) (d : Kd α) (wf : α → Prop) : Prop :=
  ∀ {H : Type} {enc : TypeId × Value → H} {w : World} {base : Nat} {spare : Nat → Bool} {held : Bool} {fuel : Nat} {cs : List Value} {x : DataW H × List MemPlace},
    DataW.trod enc P w base spare held fuel t cs = some x → Sized P t x.1 → ∃ y, d.K w y cs ∧ wf y
section
variable {P : Program} {t e : TypeId} {α β : Type}
theorem Opens.sized {d : Kd α} {wf : α → Prop} (ho : Opens P t d wf) : OpensR P t d wf := fun h _ => ho h
theorem opensR_string (ht : P.underlying t = some .string) : OpensR P t Kd.string (fun s => s.size ≤ 140737488355328) := fun h hz => by
  obtain ⟨s, rfl, he, -⟩ := DataW.trod_string ht h
  refine ⟨s, rfl, ?_⟩
  subst he
  have h1 := hz s.data.toList.length (by simp [DataW.weights])
  have h2 : s.data.toList.length = s.size := data_length s
  unfold reachBytes at h1
  omega
/-- The fields of a struct, from a cell on. -/
def OpensFR (P : Program) {α : Type} (o : Nat) (fs : List Field) (d : Kd α) (wf : α → Prop) : Prop :=
  ∀ {H : Type} {enc : TypeId × Value → H} {w : World} {base : Nat} {spare : Nat → Bool} {held : Bool} {n : Nat} {cs : List Value},
    (∀ f ∈ fs, ∃ y, DataW.trod enc P w base spare held n f.type ((cs.drop f.offset).take (P.cellsOf f.type)) = some y ∧ Sized P f.type y.1) → ∃ y, d.K w y ((cs.drop o).take d.sz) ∧ wf y
theorem opensFR_one {o : Nat} {f : Field} {d : Kd α} {wf : α → Prop} (hof : f.offset = o) (hc : P.cellsOf f.type = d.sz) (ho : OpensR P f.type d wf) : OpensFR P o [f] d wf := fun h => by
  obtain ⟨y, hy, hz⟩ := h f (List.mem_singleton.2 rfl)
  rw [hof, hc] at hy
  exact ho hy hz
theorem opensFR_cons {o : Nat} {f : Field} {fs : List Field} {d : Kd α} {d' : Kd β} {wf : α → Prop} {wf' : β → Prop} (hof : f.offset = o) (hc : P.cellsOf f.type = d.sz) (ho : OpensR P f.type d wf) (hr : OpensFR P (o + d.sz) fs d' wf') : OpensFR P o (f :: fs) (Kd.pair d d') (fun x => wf x.1 ∧ wf' x.2) := fun h => by
  obtain ⟨y, hy, hz⟩ := h f (List.mem_cons_self ..)
  rw [hof, hc] at hy
  obtain ⟨a, ha, hwa⟩ := ho hy hz
  obtain ⟨b, hb, hwb⟩ := hr (fun f hf => h f (List.mem_cons_of_mem _ hf))
  refine ⟨(a, b), ⟨_, _, ?_, ha, hb⟩, hwa, hwb⟩
  show List.take (d.sz + d'.sz) _ = _
  rw [List.take_add, List.drop_drop]
theorem opensR_struct {fs : Array Field} {d : Kd α} {wf : α → Prop} (ht : P.underlying t = some (.struct fs)) (hc : P.cellsOf t = d.sz) (ho : OpensFR P 0 fs.toList d wf) : OpensR P t d wf := fun h hz => by
  obtain ⟨xs, n, _, rfl, hl, hlen, hf⟩ := DataW.trod_struct ht h
  obtain ⟨y, hK, hw⟩ := ho (fun f hfm => by
    obtain ⟨i, hi⟩ := List.getElem?_of_mem hfm
    have hi' : i < xs.length := by
      have := (List.getElem?_eq_some_iff.1 hi).1
      rw [Array.length_toList] at this
      omega
    have hi2 := hi
    rw [Array.getElem?_toList] at hi
    refine ⟨_, (hf i f hi).trans (List.getElem?_eq_getElem hi'), fun q hq => hz q ?_⟩
    unfold DataW.weights
    rw [ht]
    exact DataW.weights_mem_each (j := i) (by rw [List.getElem?_map, hi2]; rfl) (by rw [List.getElem?_map, List.getElem?_eq_getElem hi']; rfl) q hq)
  rw [List.drop_zero, List.take_of_length_le (by omega)] at hK
  exact ⟨y, hK, hw⟩
end
section
variable {P : Program} {H : Type} {enc : TypeId × Value → H} {w : World} {base : Nat} {spare : Nat → Bool} {held : Bool} {r : Reach} {b0 : Nat} {v : Value} {dd : DataW H} {ps : List MemPlace}
/-- What the row's premise says of an argument. -/
theorem sized_arg {ts : List TypeId} {ds : List (DataW H)} (h : (DataW.weightsEach P ts ds).all (· ≤ reachBytes) = true) {j : Nat} {t : TypeId} {d : DataW H} (ht : ts[j]? = some t) (hd : ds[j]? = some d) : Sized P t d := fun q hq => by
  have := List.all_eq_true.1 h q (DataW.weights_mem_each ht hd q hq)
  simpa using this
end
end Go.Proofs.YtlkneoednkhleaaGreatDoor

namespace Go.Proofs.YtlkneoednkhleaaGreatDoor
open Go Go.RowKit Go.Proofs.YtlkneoednkhleaaGreatDoorW.PrintWords Go.ChangeShapes Go.WideShapes
set_option linter.unusedVariables false
set_option linter.unusedSimpArgs false
set_option maxRecDepth 100000
set_option maxHeartbeats 1000000

structure Rec.fitR (r : Rec) : Prop where
  fit : r.fit
  name : r.name.length ≤ 140737488355328
  tgt : r.tgt.length ≤ 140737488355328
structure Qu.fitR (q : Qu) : Prop where
  fit : q.fit
  name : q.name.length ≤ 140737488355328
theorem opensR_rec : OpensR Tryz.prog 28 recK Rec.fitR := fun h hz => by
  obtain ⟨⟨n, t, c, l, a, g, d⟩, hK, hw⟩ := (opensR_struct Tryz.underlying28 (by kernel_rfl) (opensFR_cons rfl (by kernel_rfl) (opensR_string Tryz.underlying9) (opensFR_cons rfl (by kernel_rfl) (Opens.sized (opens_int Tryz.underlying3)) (opensFR_cons rfl (by kernel_rfl) (Opens.sized (opens_int Tryz.underlying3)) (opensFR_cons rfl (by kernel_rfl) (Opens.sized (opens_int Tryz.underlying23))
    (opensFR_cons rfl (by kernel_rfl) (Opens.sized opens_ad) (opensFR_cons rfl (by kernel_rfl) (opensR_string Tryz.underlying9) (opensFR_one rfl (by kernel_rfl) (Opens.sized (opens_slice Tryz.underlying22 (by kernel_rfl) (opens_int Tryz.underlying5)))))))))) ) h hz
  obtain ⟨h1, h2, h3, h4, h5, h6, h7⟩ := hw
  exact ⟨⟨n.data.toList, t, c, l, a, g.data.toList, d⟩, hK, ⟨⟨⟨h5, fun x hx => wf8 (h7 x hx)⟩, wf64 h2, wf64 h3, wf32 h4, Nat.le_trans (show n.size ≤ _ from h1) (by decide), Nat.le_trans (show g.size ≤ _ from h6) (by decide)⟩, h1, h6⟩⟩
theorem opensR_qu : OpensR Tryz.prog 30 quK Qu.fitR := fun h hz => by
  obtain ⟨⟨n, t, c⟩, hK, hw⟩ := (opensR_struct Tryz.underlying30 (by kernel_rfl) (opensFR_cons rfl (by kernel_rfl) (opensR_string Tryz.underlying9) (opensFR_cons rfl (by kernel_rfl) (Opens.sized (opens_int Tryz.underlying3)) (opensFR_one rfl (by kernel_rfl) (Opens.sized (opens_int Tryz.underlying3)))))) h hz
  obtain ⟨h1, h2, h3⟩ := hw
  exact ⟨⟨n.data.toList, t, c⟩, hK, ⟨⟨wf64 h2, wf64 h3, Nat.le_trans (show n.size ≤ _ from h1) (by decide)⟩, h1⟩⟩
section
variable {H : Type} {enc : TypeId × Value → H} {w : World} {base : Nat} {spare : Nat → Bool} {held : Bool} {r : Reach} {b0 : Nat} {v : Value} {dd : DataW H} {ps : List MemPlace}
theorem open_recR (hval : Value.okWide Tryz.prog w r b0 28 v) (hd : DataW.Trod enc Tryz.prog w base spare held 28 v dd ps) (hz : Sized Tryz.prog 28 dd) :
    ∃ (r : Rec) (A : Option Addr) (c : Nat), v = .agg (recA r (.slice A r.data.length c)) ∧ (Kd.int .u8).C w A r.data.length r.data ∧ r.data.length ≤ c ∧ r.fitR := by
  obtain ⟨cs, rfl, -⟩ := okWide_struct Tryz.underlying28 hval
  obtain ⟨fuel, hf⟩ := hd
  obtain ⟨r, hK, hw⟩ := opensR_rec hf hz
  obtain ⟨A, c, hcs, hl, hC⟩ := recK_open hK
  refine ⟨r, A, c, ?_, hC, hl, hw⟩
  have h1 : cs.toList = (recA r (.slice A r.data.length c)).toList := hcs
  rw [Array.toList_inj.1 h1]
theorem open_quR (hval : Value.okWide Tryz.prog w r b0 30 v) (hd : DataW.Trod enc Tryz.prog w base spare held 30 v dd ps) (hz : Sized Tryz.prog 30 dd) :
    ∃ q : Qu, v = .agg #[.string (mkB q.name), .int .i64 q.typ, .int .i64 q.cls] ∧ q.fitR := by
  obtain ⟨cs, rfl, -⟩ := okWide_struct Tryz.underlying30 hval
  obtain ⟨fuel, hf⟩ := hd
  obtain ⟨q, hK, hw⟩ := opensR_qu hf hz
  refine ⟨q, ?_, hw⟩
  have h1 : cs.toList = [.string (mkB q.name), .int .i64 q.typ, .int .i64 q.cls] := quK_open.1 hK
  have h2 : cs.toList = (#[.string (mkB q.name), .int .i64 q.typ, .int .i64 q.cls] : Array Value).toList := h1
  rw [Array.toList_inj.1 h2]
end
end Go.Proofs.YtlkneoednkhleaaGreatDoor
