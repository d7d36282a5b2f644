/-
  Where a walk stands, and what a call hands back to it, in one step each.
-/
import Derived.Test.YtlkneoednkhleaaGreatDoorYOctD
namespace Go.Proofs.YtlkneoednkhleaaGreatDoor
open Go.RowKit Go.Proofs.YtlkneoednkhleaaGreatDoorW.PrintWords
set_option linter.unusedVariables false
set_option linter.unusedSimpArgs false

/-- Nothing of before has changed, and the listed variables are as they were. -/
structure St (w0 W : World) : Prop where
  below : Below w0.heap.size w0 W
  env : Env W
theorem St.start {w : World} (h : Env w) : St w w := ⟨Below.refl _ _, h⟩
theorem St.step {w0 W W' : World} (h : St w0 W) (hb : Below W.heap.size W W') : St w0 W' := ⟨below_step h.below hb, h.env.below hb⟩
theorem St.alloc {w0 W : World} (h : St w0 W) (o : Obj) : St w0 (W.alloc o) := h.step ((Below.refl _ _).alloc (Nat.le_refl _) _)
theorem St.size {w0 W : World} (h : St w0 W) : w0.heap.size ≤ W.heap.size := h.below.size

theorem M_cap {α : Type} {t : TypeId} {d : Kd α} {b n c : Nat} {ok : Nat → Prop} {w : World} {A : Option Addr} {xs : List α} (h : (Kd.slice t d).M w b ok xs [.slice A n c]) : c ≤ 9223372036854775807 := by
  obtain ⟨v, hv, hR⟩ := h
  obtain rfl := List.singleton_inj.1 hv
  obtain ⟨inner, ho⟩ := Kd.R_own hR
  rcases ho.2 with ⟨h1, -⟩ | ⟨g, cap, cur, hv, -, -, -, hm, -⟩
  · injection h1 with _ _ h3; omega
  · injection hv with _ _ h3; subst h3; exact hm
section
variable {P : Program} {f : FuncId} {args : Array Value} {w0 W : World} {Q : Ending → World → Prop}
theorem q_ {r : Value} (H : Calls P f args W fun e w' => e = .returned r ∧ W = w') (k : Q (.returned r) W) : Calls P f args W Q :=
  H.mono fun e w' ⟨he, hw⟩ => by subst he; subst hw; exact k
theorem b_ {r : Value} (H : Calls P f args W fun e w' => e = .returned r ∧ Below W.heap.size W w') (HS : Kp (St w0 W)) (k : ∀ W', Kp (Below W.heap.size W W') → Kp (St w0 W') → Q (.returned r) W') : Calls P f args W Q :=
  H.mono fun e w' ⟨he, hb⟩ => by subst he; exact k w' ⟨hb⟩ ⟨HS.out.step hb⟩
theorem g_ {α : Type} {d : Kd α} {x : α} (H : Calls P f args W (Gives d x W)) (HS : Kp (St w0 W)) (k : ∀ v W', Kp (d.M W' W.heap.size (fun _ => True) x [v]) → Kp (Below W.heap.size W W') → Kp (St w0 W') → Q (.returned v) W') : Calls P f args W Q :=
  H.mono fun e w' ⟨v, he, hm, hb⟩ => by subst he; exact k v w' ⟨hm⟩ ⟨hb⟩ ⟨HS.out.step hb⟩
/-- .. at a row. -/
theorem gs_ {α : Type} {t : TypeId} {d : Kd α} {xs : List α} (H : Calls P f args W (Gives (Kd.slice t d) xs W)) (HS : Kp (St w0 W)) (k : ∀ A c W', xs.length ≤ c → c ≤ 9223372036854775807 → Kp (d.C W' A xs.length xs) → Kp ((Kd.slice t d).M W' W.heap.size (fun _ => True) xs [.slice A xs.length c]) → Kp (Below W.heap.size W W') → Kp (St w0 W') → Q (.returned (.slice A xs.length c)) W') : Calls P f args W Q :=
  g_ H HS fun v W' HM HB HS' => by
    obtain ⟨A, c, rfl, hc, hC⟩ := slice_open ((Kd.slice t d).K_of_M HM.out)
    exact k A c W' hc (M_cap HM.out) ⟨hC⟩ HM HB HS'
theorem g2_ {α β : Type} {d1 : Kd α} {d2 : Kd β} {x : α} {y : β} (H : Calls P f args W (Gives2 d1 d2 x y W)) (HS : Kp (St w0 W))
    (k : ∀ v1 v2 W', Kp (d1.M W' W.heap.size (fun _ => True) x [v1]) → Kp (d2.M W' W.heap.size (fun _ => True) y [v2]) → Kp (Below W.heap.size W W') → Kp (St w0 W') → Q (.returned (.tuple #[v1, v2])) W') : Calls P f args W Q :=
  H.mono fun e w' ⟨v1, v2, he, h1, h2, hb⟩ => by subst he; exact k v1 v2 w' ⟨h1⟩ ⟨h2⟩ ⟨hb⟩ ⟨HS.out.step hb⟩
/-- .. a row, and no error. -/
theorem g2sn_ {α : Type} {t : TypeId} {d : Kd α} {xs : List α} (H : Calls P f args W (Gives2 (Kd.slice t d) erK xs .none W)) (HS : Kp (St w0 W))
    (k : ∀ A c W', xs.length ≤ c → c ≤ 9223372036854775807 → Kp (d.C W' A xs.length xs) → Kp ((Kd.slice t d).M W' W.heap.size (fun _ => True) xs [.slice A xs.length c]) → Kp (Below W.heap.size W W') → Kp (St w0 W') → Q (.returned (.tuple #[.slice A xs.length c, .nilIface])) W') : Calls P f args W Q :=
  g2_ H HS fun v1 v2 W' HM HE HB HS' => by
    obtain ⟨A, c, rfl, hc, hC⟩ := slice_open ((Kd.slice t d).K_of_M HM.out)
    obtain rfl := er_open_none (erK.K_of_M HE.out)
    exact k A c W' hc (M_cap HM.out) ⟨hC⟩ HM HB HS'
theorem g3_ {α β γ : Type} {d1 : Kd α} {d2 : Kd β} {d3 : Kd γ} {x : α} {y : β} {z : γ} (H : Calls P f args W (Gives3 d1 d2 d3 x y z W)) (HS : Kp (St w0 W))
    (k : ∀ v1 v2 v3 W', Kp (d1.M W' W.heap.size (fun _ => True) x [v1]) → Kp (d2.M W' W.heap.size (fun _ => True) y [v2]) → Kp (d3.M W' W.heap.size (fun _ => True) z [v3]) → Kp (Below W.heap.size W W') → Kp (St w0 W') → Q (.returned (.tuple #[v1, v2, v3])) W') : Calls P f args W Q :=
  H.mono fun e w' ⟨v1, v2, v3, he, h1, h2, h3, hb⟩ => by subst he; exact k v1 v2 v3 w' ⟨h1⟩ ⟨h2⟩ ⟨h3⟩ ⟨hb⟩ ⟨HS.out.step hb⟩
/-- A text, a number, an error (in the form that it has). -/
theorem gsie_ {x : ByteArray} {y : Int} {z : Er} (H : Calls P f args W (Gives3 Kd.string (Kd.int .i64) erK x y z W)) (HS : Kp (St w0 W))
    (k : ∀ v W', Kp (erK.M W' W.heap.size (fun _ => True) z [v]) → Kp (Below W.heap.size W W') → Kp (St w0 W') → Q (.returned (.tuple #[.string x, .int .i64 y, v])) W') : Calls P f args W Q :=
  g3_ H HS fun v1 v2 v3 W' H1 H2 H3 HB HS' => by
    obtain rfl : v1 = .string x := List.singleton_inj.1 H1.out
    obtain rfl : v2 = .int .i64 y := List.singleton_inj.1 H2.out
    exact k v3 W' H3 HB HS'
end
end Go.Proofs.YtlkneoednkhleaaGreatDoor
