/-
  The listed variables of the rows that meet no errors: what is kept of them; where a walk stands, and what a call hands back, in one step each.
-/
import Derived.Test.YtimaliamidgflaaDoorCx
import Derived.Test.YtimaliamidgflaaDoorNameB
namespace Go.Proofs.YtimaliamidgflaaDoor
open Go.RowKit Go.Proofs.YtimaliamidgflaaDoorW.PrintWords
set_option linter.unusedVariables false
set_option linter.unusedSimpArgs false
set_option maxRecDepth 100000
set_option maxHeartbeats 1000000

structure EnvM (w : World) : Prop where
  maxLen : ∃ m : Int, w.cell? ⟨1, 0, Option.none⟩ = some (.int .i64 m)
theorem EnvM.below {w w1 : World} (h : EnvM w) (hb : Below w.heap.size w w1) : EnvM w1 :=
  ⟨let ⟨m, hm⟩ := h.maxLen; ⟨m, (hb.cell (World.block_lt_of_cell? w _ hm)).trans hm⟩⟩
structure StM (w0 W : World) : Prop where
  below : Below w0.heap.size w0 W
  env : EnvM W
theorem StM.start {w : World} (h : EnvM w) : StM w w := ⟨Below.refl _ _, h⟩
theorem StM.step {w0 W W' : World} (h : StM w0 W) (hb : Below W.heap.size W W') : StM w0 W' := ⟨below_step h.below hb, h.env.below hb⟩
theorem StM.alloc {w0 W : World} (h : StM w0 W) (o : Obj) : StM w0 (W.alloc o) := h.step ((Below.refl _ _).alloc (Nat.le_refl _) _)
theorem StM.size {w0 W : World} (h : StM w0 W) : w0.heap.size ≤ W.heap.size := h.below.size
section
variable {P : Program} {f : FuncId} {args : Array Value} {w0 W : World} {Q : Ending → World → Prop}
theorem bM_ {r : Value} (H : Calls P f args W fun e w' => e = .returned r ∧ Below W.heap.size W w') (HS : Kp (StM w0 W)) (k : ∀ W', Kp (Below W.heap.size W W') → Kp (StM w0 W') → Q (.returned r) W') : Calls P f args W Q :=
  H.mono fun e w' ⟨he, hb⟩ => by subst he; exact k w' ⟨hb⟩ ⟨HS.out.step hb⟩
theorem gM_ {α : Type} {d : Kd α} {x : α} (H : Calls P f args W (Gives d x W)) (HS : Kp (StM w0 W)) (k : ∀ v W', Kp (d.M W' W.heap.size (fun _ => True) x [v]) → Kp (Below W.heap.size W W') → Kp (StM w0 W') → Q (.returned v) W') : Calls P f args W Q :=
  H.mono fun e w' ⟨v, he, hm, hb⟩ => by subst he; exact k v w' ⟨hm⟩ ⟨hb⟩ ⟨HS.out.step hb⟩
theorem gsM_ {α : Type} {t : TypeId} {d : Kd α} {xs : List α} (H : Calls P f args W (Gives (Kd.slice t d) xs W)) (HS : Kp (StM w0 W)) (k : ∀ A c W', xs.length ≤ c → c ≤ 9223372036854775807 → Kp (d.C W' A xs.length xs) → Kp ((Kd.slice t d).M W' W.heap.size (fun _ => True) xs [.slice A xs.length c]) → Kp (Below W.heap.size W W') → Kp (StM w0 W') → Q (.returned (.slice A xs.length c)) W') : Calls P f args W Q :=
  gM_ H HS fun v W' HM HB HS' => by
    obtain ⟨A, c, rfl, hc, hC⟩ := slice_open ((Kd.slice t d).K_of_M HM.out)
    exact k A c W' hc (M_cap HM.out) ⟨hC⟩ HM HB HS'
end
theorem labelsM_calls (s : ByteArray) (w : World) (hE : EnvM w) (hs : s.size < 4294967281) : Calls Tryd.prog 29 #[.string s] w (Gives strsK ((labelsOf s.data.toList).map mkB) w) := by
  obtain ⟨m, hm⟩ := hE.maxLen
  by_cases h0 : s.data.toList = []
  · have hl : labelsOf s.data.toList = [] := by simp [labelsOf, h0]
    rw [hl]
    have b0 : s.toList.isEmpty = true := by rw [ByteArray.toList_eq]; simp [h0]
    clear hl
    go_enter Tryd.func29, Tryd.ntmps29
    go_wp2
    go_ret
    exact ⟨_, rfl, ⟨_, rfl, Kd.R_nil _ _ _ _ _⟩, Below.refl _ _⟩
  · have hl : labelsOf s.data.toList = splitD s.data.toList := by simp [labelsOf, h0]
    rw [hl]
    have b0 : s.toList.isEmpty = false := by rw [ByteArray.toList_eq]; simpa using h0
    have H := Kp.mk (Tryd.strings_Split s dotB m w hs hm (Nat.le_refl 1))
    have HS := Kp.mk (strs_new w ((splitD s.data.toList).map mkB) (by have := splitD_len s.data.toList; have : s.data.toList.length = s.size := data_length s; simp; omega))
    have HC := Kp.mk (splitD_count s)
    have HB := Kp.mk (splitB_dot s)
    clear hl hm
    go_enter Tryd.func29, Tryd.ntmps29
    go_wp2_with (fail)
    refine H.out.mono ?_
    rintro e w1 ⟨rfl, rfl⟩
    rw [HC.out, HB.out]
    have HS' := HS.out
    rw [List.length_map, List.map_map] at HS'
    have HS2 := Kp.mk HS'
    clear HS' HS
    go_wp2
    go_ret
    exact ⟨_, rfl, HS2.out, (Below.refl _ _).alloc (Nat.le_refl _) _⟩

end Go.Proofs.YtimaliamidgflaaDoor
