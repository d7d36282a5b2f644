/-
  Questions as they are handed in.
-/
import Derived.Test.YtclgffblfjhciaaGreatDoorZOpenRec
namespace Go.Proofs.YtclgffblfjhciaaGreatDoor
open Go Go.RowKit Go.Proofs.YtclgffblfjhciaaGreatDoorW.PrintWords Go.ChangeShapes Go.WideShapes
set_option linter.unusedVariables false
set_option linter.unusedSimpArgs false
set_option maxRecDepth 100000
set_option maxHeartbeats 1000000

/-- What is asked of a question that is handed in. -/
structure Qu.fit (q : Qu) : Prop where
  typ : -9223372036854775808 ≤ q.typ ∧ q.typ ≤ 9223372036854775807
  cls : -9223372036854775808 ≤ q.cls ∧ q.cls ≤ 9223372036854775807
  name : q.name.length ≤ 9223372036854775807
theorem opens_qu : Opens Tryz.prog 54 quK Qu.fit := fun h => by
  obtain ⟨⟨n, t, c⟩, hK, hw⟩ := (opens_struct Tryz.underlying54 (by kernel_rfl) (opensF_cons rfl (by kernel_rfl) (opens_string Tryz.underlying9) (opensF_cons rfl (by kernel_rfl) (opens_int Tryz.underlying3) (opensF_one rfl (by kernel_rfl) (opens_int Tryz.underlying3))))) h
  obtain ⟨h1, h2, h3⟩ := hw
  exact ⟨⟨n.data.toList, t, c⟩, hK, ⟨wf64 h2, wf64 h3, h1⟩⟩
theorem open_qu {H : Type} {enc : TypeId × Value → H} {w : World} {base : Nat} {spare : Nat → Bool} {held : Bool} {r : Reach} {b0 : Nat} {v : Value} {dd : DataW H} {ps : List MemPlace} (hval : Value.okWide Tryz.prog w r b0 54 v) (hd : DataW.Trod enc Tryz.prog w base spare held 54 v dd ps) :
    ∃ q : Qu, v = .agg #[.string (mkB q.name), .int .i64 q.typ, .int .i64 q.cls] ∧ q.fit := by
  obtain ⟨cs, rfl, -⟩ := okWide_struct Tryz.underlying54 hval
  obtain ⟨fuel, hf⟩ := hd
  obtain ⟨q, hK, hw⟩ := opens_qu hf
  refine ⟨q, ?_, hw⟩
  have h1 : cs.toList = [.string (mkB q.name), .int .i64 q.typ, .int .i64 q.cls] := quK_open.1 hK
  have h2 : cs.toList = (#[.string (mkB q.name), .int .i64 q.typ, .int .i64 q.cls] : Array Value).toList := h1
  rw [Array.toList_inj.1 h2]
end Go.Proofs.YtclgffblfjhciaaGreatDoor
