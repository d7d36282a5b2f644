/-
  The law LabelsTell: for every input it answers true; the row, and the card that ties the listed variables to the program's text.
-/
import Derived.Test.YtimaliamidgflaaDoorZLabelsTell
import Derived.Test.YtimaliamidgflaaDoorFrame
import Derived.Test.YtimaliamidgflaaDoorTie
import Derived.Test.YtimaliamidgflaaDoorCards
import Derived.SevenTiedAt
import Derived.Test.YtimaliamidgflaaDoorGp
import Derived.Test.YtimaliamidgflaaDoorFrameP
namespace Go.Proofs.YtimaliamidgflaaDoor.labelsTellP
open Go Go.ChangeShapes Go.WideShapes Go.ChangeAt Go.RowKit
set_option linter.unusedVariables false
set_option linter.unusedSimpArgs false
open Go.ChangeMaps (open_string)
set_option maxRecDepth 100000

theorem lifted (os : Os) (started : os.Started) (H : Type) (enc : TypeId × Value → H) :
    ReturnsInHanded {} Tryd.checked os 3 .any (fun w args => (Rows.labelsTellSpec.pre enc Tryd.prog Tryd.f3 Rows.labelsTellRow.domain false w args ∧ laidMetH Tryd.prog laidP w) ∧ sizedMet enc Tryd.prog Tryd.f3 (OpenSpec.ofChange Rows.labelsTellSpec) false w args)
      (Rows.labelsTellSpec.post enc Tryd.prog Tryd.f3 false true false false) := by
  refine returnsIn_kept (C := Tryd.checked) (X := fun w _ => laidMetH Tryd.prog laidP w) (fun _ _ _ hh h => h.of_heap hh) own started (by kernel_rfl) Tryd.func3
    (ChangeSpec.witness_shaped (enc := enc) (C := Tryd.checked) (os := os) (X := fun w _ => laidMetH Tryd.prog laidP w) false (laidWorldP os) #[.slice none 0 0, .slice none 0 0] 8 (laidWorldP_os os)
      (World.shaped_of_ZipB (by kernel_rfl) (by kernel_rfl)) (by kernel_rfl) (by kernel_rfl) (by kernel_rfl) (laidWorldP_met os _)) ?_
  intro W base args ds gs before hval0 hW hrch hL hsh
  have hval : ∀ (j : Nat) t v, Tryd.f3.params[j]? = some t → args[j]? = some v → Value.okWide Tryd.prog W .any base t v := hval0
  have hW' := hW
  obtain ⟨p, q, hA0, hV, rfl, hfz, hnd⟩ := hW
  have hA : DataW.TrodAll enc Tryd.prog W 0 (fun _ => true) true Tryd.f3.params.toList args.toList ds p := hA0
  have hrch' : (DataW.weightsEach Tryd.prog (Tryd.f3.params.toList ++ Rows.labelsTellSpec.plain.varTypes Tryd.prog) (ds ++ gs)).all (· ≤ reachBytes) = true := hrch
  rw [Tryd.params3] at hA hval hrch'
  obtain ⟨v0, vs0, d0, ds0, p0, q0, hargs, rfl, rfl, h0, r0⟩ := trodAll_cons hA
  obtain ⟨v1, vs1, d1, ds1, p1, q1, rfl, rfl, rfl, h1, r1⟩ := trodAll_cons r0
  obtain ⟨rfl, rfl, rfl⟩ := trodAll_nil r1
  obtain rfl : args = #[v0, v1] := by cases args; simp_all
  obtain ⟨rfl, rfl⟩ := trodVars_none hV
  obtain ⟨A0, n0, c0, xs0, rfl, hC0, hc0, hm0, hx0⟩ := open_pats (hval 0 22 v0 rfl rfl) h0 (sized_arg hrch' (j := 0) rfl rfl)
  obtain ⟨A1, n1, c1, xs1, rfl, hC1, hc1, hm1, hx1⟩ := open_texts Tryd.underlying23 (hval 1 23 v1 rfl rfl) h1 (sized_arg hrch' (j := 1) rfl rfl)
  refine (labelsTell_walk W A0 n0 c0 xs0 hC0 hc0 hm0 hx0 A1 n1 c1 xs1 hC1 hc1 hm1 hx1 (envP_of hsh)).mono fun e W' ⟨he, hb⟩ => ?_
  subst he
  exact ⟨_, rfl, post_kept (C := Tryd.checked) (b := 4) laidOut rfl (by kernel_rfl) Tryd.underlying4 hW' rfl rfl rfl (by kernel_rfl) hb⟩

theorem proved : Rows.LabelsTellSaid :=
  OpenClaim.holds_of_wide 3 Tryd.f3 rfl rfl rfl rfl rfl rfl rfl ⟨rfl, rfl, rfl, rfl, rfl⟩ rfl rfl rfl rfl rfl (by kernel_rfl) Tryd.func3 (by kernel_rfl)
    (of_decide_eq_true (by kernel_rfl)) (by unfold Func.isWrapper; first | (rw [if_pos (by decide +kernel)]; kernel_rfl) | (rw [if_neg (by decide +kernel)]; exact ⟨rfl, rfl⟩))
    (fun os started H enc _ => lifted os started H enc)

theorem card_holds : Rows.LabelsTellCardSaid :=
  Claim7.holds_tied_plain_at .later [] [.data, .pinned] true (true, "45fc6a404d087db0d0e32ccf0225027f2a8ed70e21e5151e4bb6299a6b6def96") true proved (fun _ h => by cases h) (by kernel_rfl) (fun _ h => by cases h) labelsTell_row_tie rfl ⟨rfl, rfl⟩ (by kernel_rfl) rfl
    (fun f fn hf hfn => by
      obtain rfl : f = 3 := Option.some.inj ((show Tryd.prog.funcNamed "stockade/stockadelaw20.LabelsTell" = some 3 by kernel_rfl).symm.trans hf) |>.symm
      obtain rfl : fn = Tryd.f3 := (Option.some.inj (Tryd.func3.symm.trans hfn)).symm
      exact ⟨by kernel_rfl, fun j t ht => by
        rw [Tryd.params3] at ht
        have hm : t ∈ [22, 23] := by simpa using Array.mem_of_getElem? ht
        have hall : ([22, 23].all fun u => !Tryd.prog.wantsStandIn u) = true := by kernel_rfl
        exact (show Tryd.prog.wantsStandIn t = false by simpa using List.all_eq_true.1 hall t hm)⟩)
    (by kernel_rfl)
#print axioms card_holds
end Go.Proofs.YtimaliamidgflaaDoor.labelsTellP
