/-
  Package labels: a name's labels, the last one first (way); a new trie; its length.
-/
import Derived.Test.YtimaliamidgflaaDoorRevS
import Derived.Test.YtimaliamidgflaaDoorCloneS
import Derived.Test.YtimaliamidgflaaDoorNameD
import Derived.Test.YtimaliamidgflaaDoorEnvM
namespace Go.Proofs.YtimaliamidgflaaDoor
open Go.RowKit Go.Proofs.YtimaliamidgflaaDoorW.PrintWords
set_option linter.unusedVariables false
set_option linter.unusedSimpArgs false
set_option maxRecDepth 100000
set_option maxHeartbeats 1000000

theorem reverseS_none (A : Option Addr) (c : Nat) (w : World) : Calls Tryd.prog 55 #[.slice A 0 c] w fun e w' => e = .returned (.tuple #[]) ∧ w = w' := by
  go_enter Tryd.func55, Tryd.ntmps55
  go_wp2_with (fail)
  refine wp_loop_rounds 1 ?_
  rw [rounds_succ]
  go_wp2
  go_returns
  exact ⟨rfl, rfl⟩
/-- A name's labels, the last one first. -/
def pathOf (s : L) : List L := (labelsOf s).reverse
theorem labels_few (s : L) : (labelsOf s).length ≤ s.length + 1 := by
  have h := labels_sz s
  have h2 := len_sz0 (labelsOf s)
  split at h <;> omega
where
  len_sz0 (l : List L) : l.length + 1 ≤ sizeOf_ l := by
    induction l with
    | nil => simp [sizeOf_]
    | cons x l ih => simp [sizeOf_] at ih ⊢; omega
theorem way_calls (s : ByteArray) (w : World) (hE : EnvM w) (hs : s.size ≤ 100000) : Calls Tryd.prog 35 #[.string s] w (Gives strsK ((pathOf s.data.toList).map mkB) w) := by
  have HS := Kp.mk (StM.start hE)
  have hfew := labels_few s.data.toList
  have hsz : s.data.toList.length = s.size := data_length s
  have HL := Kp.mk (labelsM_calls s w hE (by omega))
  have hp : (pathOf s.data.toList).map mkB = ((labelsOf s.data.toList).map mkB).reverse := by rw [pathOf, List.map_reverse]
  rw [hp]
  obtain ⟨xs, hxs⟩ : ∃ xs, (labelsOf s.data.toList).map mkB = xs := ⟨_, rfl⟩
  have hxl : xs.length = (labelsOf s.data.toList).length := by rw [← hxs, List.length_map]
  have hxn : xs.length ≤ 100001 := by omega
  rw [hxs] at HL ⊢
  clear hE hp hxs hxl hfew hsz
  go_enter Tryd.func35, Tryd.ntmps35
  go_wp2_with (fail)
  refine gsM_ HL.out HS ?_
  intro A c w1 hc hcm HC HM HB1 HS1
  go_wp2_with (fail)
  refine gsM_ (cloneS_calls A xs.length c xs _ HC.out (by omega)) HS1 ?_
  intro A2 c2 w2 hc2 hcm2 HC2 HM2 HB2 HS2
  obtain ⟨v2, hv2, hR2⟩ := HM2.out
  obtain rfl := List.singleton_inj.1 hv2
  have HR2 := Kp.mk hR2
  clear hR2 hv2
  by_cases h0 : xs.length = 0
  · obtain rfl : xs = [] := List.eq_nil_of_length_eq_zero h0
    go_wp2_with (fail)
    refine q_ (reverseS_none A2 c2 _) ?_
    go_wp2
    go_ret
    exact ⟨_, rfl, ⟨_, rfl, Kd.R_lower HR2.out HS1.out.size⟩, HS2.out.below⟩
  · obtain ⟨g, rfl, hg, -⟩ := R_form HR2.out (by omega)
    go_wp2_with (fail)
    refine (reverseS_calls g c2 xs _ _ HR2.out).mono ?_
    rintro e w3 ⟨rfl, hR3, hb3⟩
    have HR3 := Kp.mk hR3
    have HB3 := Kp.mk ((Below.refl w1.heap.size w2).grown hb3 HB2.out.size (fun k hk => by obtain rfl := Option.some.inj hk; exact hg))
    clear hR3 hb3
    go_wp2
    go_ret
    exact ⟨_, rfl, ⟨_, rfl, Kd.R_lower HR3.out HS1.out.size⟩, HS2.out.below.trans (HB3.out.mono HS1.out.size)⟩
end Go.Proofs.YtimaliamidgflaaDoor
