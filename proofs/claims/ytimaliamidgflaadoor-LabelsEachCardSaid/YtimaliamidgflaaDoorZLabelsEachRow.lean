/-
  The law LabelsEach: for every input it answers true; the row, and the card that ties the listed variables to the program's text.
-/
import Derived.Test.YtimaliamidgflaaDoorZLabelsEach
import Derived.Test.YtimaliamidgflaaDoorFrame
import Derived.Test.YtimaliamidgflaaDoorTie
import Derived.Test.YtimaliamidgflaaDoorCards
import Derived.SevenTiedAt
import Derived.Test.YtimaliamidgflaaDoorGp
import Derived.Test.YtimaliamidgflaaDoorFrameP
namespace Go.Proofs.YtimaliamidgflaaDoor.labelsEachP
open Go Go.ChangeShapes Go.WideShapes Go.ChangeAt Go.RowKit
set_option linter.unusedVariables false
set_option linter.unusedSimpArgs false
open Go.ChangeMaps (open_string)
set_option maxRecDepth 100000

theorem lifted (os : Os) (started : os.Started) (H : Type) (enc : TypeId × Value → H) :
    ReturnsInHanded {} Tryd.checked os 4 .any (fun w args => (Rows.labelsEachSpec.pre enc Tryd.prog Tryd.f4 Rows.labelsEachRow.domain false w args ∧ laidMetH Tryd.prog laidP w) ∧ sizedMet enc Tryd.prog Tryd.f4 (OpenSpec.ofChange Rows.labelsEachSpec) false w args)
      (Rows.labelsEachSpec.post enc Tryd.prog Tryd.f4 false true false false) := by
  refine returnsIn_kept (C := Tryd.checked) (X := fun w _ => laidMetH Tryd.prog laidP w) (fun _ _ _ hh h => h.of_heap hh) own started (by kernel_rfl) Tryd.func4
    (ChangeSpec.witness_shaped (enc := enc) (C := Tryd.checked) (os := os) (X := fun w _ => laidMetH Tryd.prog laidP w) false (laidWorldP os) #[.slice none 0 0, .string ⟨#[]⟩, .bool false, .string ⟨#[]⟩] 8 (laidWorldP_os os)
      (World.shaped_of_ZipB (by kernel_rfl) (by kernel_rfl)) (by kernel_rfl) (by kernel_rfl) (by kernel_rfl) (laidWorldP_met os _)) ?_
  intro W base args ds gs before hval0 hW hrch hL hsh
  have hval : ∀ (j : Nat) t v, Tryd.f4.params[j]? = some t → args[j]? = some v → Value.okWide Tryd.prog W .any base t v := hval0
  have hW' := hW
  obtain ⟨p, q, hA0, hV, rfl, hfz, hnd⟩ := hW
  have hA : DataW.TrodAll enc Tryd.prog W 0 (fun _ => true) true Tryd.f4.params.toList args.toList ds p := hA0
  have hrch' : (DataW.weightsEach Tryd.prog (Tryd.f4.params.toList ++ Rows.labelsEachSpec.plain.varTypes Tryd.prog) (ds ++ gs)).all (· ≤ reachBytes) = true := hrch
  rw [Tryd.params4] at hA hval hrch'
  obtain ⟨v0, vs0, d0, ds0, p0, q0, hargs, rfl, rfl, h0, r0⟩ := trodAll_cons hA
  obtain ⟨v1, vs1, d1, ds1, p1, q1, rfl, rfl, rfl, h1, r1⟩ := trodAll_cons r0
  obtain ⟨v2, vs2, d2, ds2, p2, q2, rfl, rfl, rfl, h2, r2⟩ := trodAll_cons r1
  obtain ⟨v3, vs3, d3, ds3, p3, q3, rfl, rfl, rfl, h3, r3⟩ := trodAll_cons r2
  obtain ⟨rfl, rfl, rfl⟩ := trodAll_nil r3
  obtain rfl : args = #[v0, v1, v2, v3] := by cases args; simp_all
  obtain ⟨rfl, rfl⟩ := trodVars_none hV
  obtain ⟨A0, n0, c0, xs0, rfl, hC0, hc0, hm0, hx0⟩ := open_pats (hval 0 22 v0 rfl rfl) h0 (sized_arg hrch' (j := 0) rfl rfl)
  obtain ⟨a1, rfl, rfl, rfl, w1⟩ := open_string Tryd.underlying9 (hval 1 9 v1 rfl rfl) h1
  have b1 : a1.size ≤ 9223372036854775807 := w1
  obtain ⟨a2, rfl, rfl, rfl⟩ := open_bool Tryd.underlying4 (hval 2 4 v2 rfl rfl) h2
  obtain ⟨a3, rfl, rfl, rfl, w3⟩ := open_string Tryd.underlying9 (hval 3 9 v3 rfl rfl) h3
  have b3 : a3.size ≤ 9223372036854775807 := w3
  refine (labelsEach_walk W A0 n0 c0 xs0 hC0 hc0 hm0 hx0 a1 b1 a2 a3 b3 (envP_of hsh)).mono fun e W' ⟨he, hb⟩ => ?_
  subst he
  exact ⟨_, rfl, post_kept (C := Tryd.checked) (b := 4) laidOut rfl (by kernel_rfl) Tryd.underlying4 hW' rfl rfl rfl (by kernel_rfl) hb⟩

theorem proved : Rows.LabelsEachSaid :=
  OpenClaim.holds_of_wide 4 Tryd.f4 rfl rfl rfl rfl rfl rfl rfl ⟨rfl, rfl, rfl, rfl, rfl⟩ rfl rfl rfl rfl rfl (by kernel_rfl) Tryd.func4 (by kernel_rfl)
    (of_decide_eq_true (by kernel_rfl)) (by unfold Func.isWrapper; first | (rw [if_pos (by decide +kernel)]; kernel_rfl) | (rw [if_neg (by decide +kernel)]; exact ⟨rfl, rfl⟩))
    (fun os started H enc _ => lifted os started H enc)

theorem card_holds : Rows.LabelsEachCardSaid :=
  Claim7.holds_tied_plain_at .later [] [.data, .pinned] true (true, "45fc6a404d087db0d0e32ccf0225027f2a8ed70e21e5151e4bb6299a6b6def96") true proved (fun _ h => by cases h) (by kernel_rfl) (fun _ h => by cases h) labelsEach_row_tie rfl ⟨rfl, rfl⟩ (by kernel_rfl) rfl
    (fun f fn hf hfn => by
      obtain rfl : f = 4 := Option.some.inj ((show Tryd.prog.funcNamed "stockade/stockadelaw20.LabelsEach" = some 4 by kernel_rfl).symm.trans hf) |>.symm
      obtain rfl : fn = Tryd.f4 := (Option.some.inj (Tryd.func4.symm.trans hfn)).symm
      exact ⟨by kernel_rfl, fun j t ht => by
        rw [Tryd.params4] at ht
        have hm : t ∈ [22, 9, 4, 9] := by simpa using Array.mem_of_getElem? ht
        have hall : ([22, 9, 4, 9].all fun u => !Tryd.prog.wantsStandIn u) = true := by kernel_rfl
        exact (show Tryd.prog.wantsStandIn t = false by simpa using List.all_eq_true.1 hall t hm)⟩)
    (by kernel_rfl)
#print axioms card_holds
end Go.Proofs.YtimaliamidgflaaDoor.labelsEachP
