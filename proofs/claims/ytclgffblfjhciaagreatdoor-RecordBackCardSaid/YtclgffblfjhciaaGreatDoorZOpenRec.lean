/-
  Addresses, questions, records as they are handed in.
-/
import Derived.Test.YtclgffblfjhciaaGreatDoorOpenA
import Derived.Test.YtclgffblfjhciaaGreatDoorGs
namespace Go.Proofs.YtclgffblfjhciaaGreatDoor
open Go Go.RowKit Go.Proofs.YtclgffblfjhciaaGreatDoorW.PrintWords Go.ChangeShapes Go.WideShapes
set_option linter.unusedVariables false
set_option linter.unusedSimpArgs false
set_option maxRecDepth 100000
set_option maxHeartbeats 1000000

theorem wf8 {x : Int} (h : (Lit.int .u8 x).wf = true) : 0 ≤ x ∧ x ≤ 255 := by
  simpa [Lit.wf, IntKind.min, IntKind.max, IntKind.signed, IntKind.bits] using h
theorem opens_ad : Opens Tryz.prog 35 adK Ad.ok := fun h => by
  obtain ⟨⟨v, ys⟩, hK, hw⟩ := (opens_struct Tryz.underlying35 (by kernel_rfl) (opensF_cons rfl (by kernel_rfl) (opens_bool Tryz.underlying4) (opensF_one rfl (by kernel_rfl) (opens_arr Tryz.underlying33 Tryz.underlying5 (by kernel_rfl) (by kernel_rfl))))) h
  obtain ⟨c0, c1, rfl, h0, hl, h1⟩ := hK
  obtain rfl : c0 = [.bool v] := h0
  have h1' : c1 = nums .u8 ys := h1
  subst h1'
  have hl' : ys.length = 16 := hl
  have hb : ∀ i, i < 16 → 0 ≤ ys.getD i 0 ∧ ys.getD i 0 ≤ 255 := fun i hi => wf8 (hw.2 _ (getD_mem ys 0 i (by omega)))
  refine ⟨⟨v, fun i => ys.getD i 0⟩, ?_, hb⟩
  match ys, hl' with
  | [x0, x1, x2, x3, x4, x5, x6, x7, x8, x9, x10, x11, x12, x13, x14, x15], _ => rfl
/-- What is asked of a record that is handed in. -/
structure Rec.fit (r : Rec) : Prop where
  ok : r.ok
  typ : -9223372036854775808 ≤ r.typ ∧ r.typ ≤ 9223372036854775807
  cls : -9223372036854775808 ≤ r.cls ∧ r.cls ≤ 9223372036854775807
  ttl : 0 ≤ r.ttl ∧ r.ttl ≤ 4294967295
  name : r.name.length ≤ 9223372036854775807
  tgt : r.tgt.length ≤ 9223372036854775807
theorem wf64 {x : Int} (h : (Lit.int .i64 x).wf = true) : -9223372036854775808 ≤ x ∧ x ≤ 9223372036854775807 := by
  simpa [Lit.wf, IntKind.min, IntKind.max, IntKind.signed, IntKind.bits] using h
theorem wf32 {x : Int} (h : (Lit.int .u32 x).wf = true) : 0 ≤ x ∧ x ≤ 4294967295 := by
  simpa [Lit.wf, IntKind.min, IntKind.max, IntKind.signed, IntKind.bits] using h
theorem opens_rec : Opens Tryz.prog 37 recK Rec.fit := fun h => by
  obtain ⟨⟨n, t, c, l, a, g, d⟩, hK, hw⟩ := (opens_struct Tryz.underlying37 (by kernel_rfl) (opensF_cons rfl (by kernel_rfl) (opens_string Tryz.underlying9) (opensF_cons rfl (by kernel_rfl) (opens_int Tryz.underlying3) (opensF_cons rfl (by kernel_rfl) (opens_int Tryz.underlying3) (opensF_cons rfl (by kernel_rfl) (opens_int Tryz.underlying32)
    (opensF_cons rfl (by kernel_rfl) opens_ad (opensF_cons rfl (by kernel_rfl) (opens_string Tryz.underlying9) (opensF_one rfl (by kernel_rfl) (opens_slice Tryz.underlying24 (by kernel_rfl) (opens_int Tryz.underlying5)))))))))) h
  obtain ⟨h1, h2, h3, h4, h5, h6, h7⟩ := hw
  exact ⟨⟨n.data.toList, t, c, l, a, g.data.toList, d⟩, hK, ⟨h5, fun x hx => wf8 (h7 x hx)⟩, wf64 h2, wf64 h3, wf32 h4, h1, h6⟩
theorem open_rec {H : Type} {enc : TypeId × Value → H} {w : World} {base : Nat} {spare : Nat → Bool} {held : Bool} {r : Reach} {b0 : Nat} {v : Value} {dd : DataW H} {ps : List MemPlace} (hval : Value.okWide Tryz.prog w r b0 37 v) (hd : DataW.Trod enc Tryz.prog w base spare held 37 v dd ps) :
    ∃ (r : Rec) (A : Option Addr) (c : Nat), v = .agg (recA r (.slice A r.data.length c)) ∧ (Kd.int .u8).C w A r.data.length r.data ∧ r.data.length ≤ c ∧ r.fit := by
  obtain ⟨cs, rfl, -⟩ := okWide_struct Tryz.underlying37 hval
  obtain ⟨fuel, hf⟩ := hd
  obtain ⟨r, hK, hw⟩ := opens_rec hf
  obtain ⟨A, c, hcs, hl, hC⟩ := recK_open hK
  refine ⟨r, A, c, ?_, hC, hl, hw⟩
  have h1 : cs.toList = (recA r (.slice A r.data.length c)).toList := hcs
  rw [Array.toList_inj.1 h1]
end Go.Proofs.YtclgffblfjhciaaGreatDoor
