/-
  Several texts of this seat in one: OctA, Clone, App, OctB, OctC, OctD, Cx.
-/
import Derived.Test.YtimaliamidgflaaGreatDoorGa
import Derived.Test.YtimaliamidgflaaGreatDoorWMore
import Derived.WalkSpells
namespace Go.Proofs.YtimaliamidgflaaGreatDoor
open Go.RowKit Go.Proofs.YtimaliamidgflaaGreatDoorW.PrintWords
set_option maxRecDepth 100000
set_option maxHeartbeats 1000000

def Er.num : Er → Int
  | .none => 0
  | .code c => c
  | .fault _ c => c
def Er.place : Er → Int
  | .fault a _ => a
  | _ => 0

theorem wrap_calls (a c : Int) (w : World) : Calls Tryz.prog 20 #[.int .i64 a, .iface 29 (.int .i64 c)] w fun e w' =>
    e = .returned (.iface 58 (.pointer (some ⟨w.heap.size, 0, Option.none⟩))) ∧ w' = w.alloc (.cells #[.int .i64 a, .iface 29 (.int .i64 c)] 64) := by
  go_enter Tryz.func20, Tryz.ntmps20
  go_wp2
  go_ret
  exact ⟨rfl, rfl⟩
theorem wrap_gives (a c : Int) (w : World) : Calls Tryz.prog 20 #[.int .i64 a, .iface 29 (.int .i64 c)] w (Gives erK (.fault a c) w) :=
  (wrap_calls a c w).mono fun e w' ⟨he, hw⟩ => ⟨_, he, hw ▸ er_new w a c, hw ▸ (Below.refl _ _).alloc (Nat.le_refl _) _⟩

theorem er_open_none {w : World} {v : Value} (h : erK.K w .none [v]) : v = .nilIface := by
  obtain ⟨u, hu, h⟩ := h
  obtain rfl := List.singleton_inj.1 hu
  exact h
theorem er_open_code {w : World} {v : Value} {c : Int} (h : erK.K w (.code c) [v]) : v = .iface 29 (.int .i64 c) := by
  obtain ⟨u, hu, h⟩ := h
  obtain rfl := List.singleton_inj.1 hu
  exact h
theorem er_open_fault {w : World} {v : Value} {a c : Int} (h : erK.K w (.fault a c) [v]) : ∃ p, v = .iface 58 (.pointer (some ⟨p, 0, Option.none⟩)) ∧ w.heap[p]? = some (.cells #[.int .i64 a, .iface 29 (.int .i64 c)] 64 (0, 0)) := by
  obtain ⟨u, hu, h⟩ := h
  obtain rfl := List.singleton_inj.1 hu
  obtain ⟨p, h1, _, h2⟩ := h
  exact ⟨p, h1, h2⟩

/-- A variable of the call's own, set behind a call that made memory. -/
theorem hit_cell {w w1 : World} {x : Value} {T : TypeId} (hb : Below (w.alloc (.cells #[x] T)).heap.size (w.alloc (.cells #[x] T)) w1) (u : Value) :
    (w1.setCell ⟨w.heap.size, 0, none⟩ u).cell? ⟨w.heap.size, 0, none⟩ = some u ∧ Below w.heap.size w (w1.setCell ⟨w.heap.size, 0, none⟩ u) := by
  refine ⟨World.cell?_setCell_same _ _ _ (u := x) ((hb.cell (by simp)).trans (by simp)), ?_⟩
  exact (((Below.refl _ _).alloc (Nat.le_refl _) _).trans (hb.mono (by simp))).setCell (Nat.le_refl _) _
theorem env_alloc {w : World} (h : Env w) (o : Obj) : Env (w.alloc o) := h.below ((Below.refl _ _).alloc (Nat.le_refl _) o)

theorem code_calls (x : Er) (v : Value) (w : World) (hv : erK.K w x [v]) (hE : Env w) :
    Calls Tryz.prog 80 #[v] w fun e w' => e = .returned (.int .i64 x.num) ∧ Below w.heap.size w w' := by
  have HT := Kp.mk (env_alloc hE (.cells #[.int .i64 0] 29)).errT
  clear hE
  cases x with
  | none =>
    obtain rfl := er_open_none hv
    clear hv
    go_enter Tryz.func80, Tryz.ntmps80
    go_wp2_with (go_at_call 29; refine (as_nil _ _).mono ?_; rintro e w' ⟨rfl, rfl⟩)
    go_ret
    exact ⟨rfl, (Below.refl _ _).alloc (Nat.le_refl _) _⟩
  | code c =>
    obtain rfl := er_open_code hv
    clear hv
    go_enter Tryz.func80, Tryz.ntmps80
    go_wp2_with (fail)
    refine (as_ee c ⟨w.heap.size, 0, none⟩ (.int .i64 0) _ HT.out (by simp) (by simp)).mono ?_
    rintro e w' ⟨rfl, w1, hb, rfl⟩
    obtain ⟨hc, hB⟩ := hit_cell hb (.int .i64 c)
    have HB := Kp.mk hB
    clear hb hB
    go_wp2
    go_ret
    exact ⟨rfl, HB.out⟩
  | fault a c =>
    obtain ⟨p, rfl, hp⟩ := er_open_fault hv
    clear hv
    have hp1 : (w.alloc (.cells #[.int .i64 0] 29)).cell? ⟨p, 1, none⟩ = some (.iface 29 (.int .i64 c)) := by
      rw [World.cell?_alloc_lt _ _ ⟨p, 1, none⟩ (heap_lt hp)]
      exact blk_cell hp 1
    have HP := Kp.mk hp1
    clear hp1 hp
    go_enter Tryz.func80, Tryz.ntmps80
    go_wp2_with (fail)
    refine (as_fe p c ⟨w.heap.size, 0, none⟩ (.int .i64 0) _ HT.out HP.out (by simp) (by simp)).mono ?_
    rintro e w' ⟨rfl, w1, hb, rfl⟩
    obtain ⟨hc, hB⟩ := hit_cell hb (.int .i64 c)
    have HB := Kp.mk hB
    clear hb hB
    go_wp2
    go_ret
    exact ⟨rfl, HB.out⟩

def Er.placed : Er → Bool
  | .fault _ _ => true
  | _ => false

theorem place_calls (x : Er) (v : Value) (w : World) (hv : erK.K w x [v]) (hE : Env w) :
    Calls Tryz.prog 79 #[v] w fun e w' => e = .returned (.tuple #[.int .i64 x.place, .bool x.placed]) ∧ Below w.heap.size w w' := by
  have HT := Kp.mk (env_alloc hE (.cells #[.pointer none] 58)).errT
  clear hE
  cases x with
  | none =>
    obtain rfl := er_open_none hv
    clear hv
    go_enter Tryz.func79, Tryz.ntmps79
    go_wp2_with (go_at_call 29; refine (as_nil _ _).mono ?_; rintro e w' ⟨rfl, rfl⟩)
    go_ret2
    exact ⟨rfl, (Below.refl _ _).alloc (Nat.le_refl _) _⟩
  | code c =>
    obtain rfl := er_open_code hv
    clear hv
    go_enter Tryz.func79, Tryz.ntmps79
    go_wp2_with (fail)
    refine (as_ef c ⟨w.heap.size, 0, none⟩ (.pointer none) _ HT.out (by simp) (by simp)).mono ?_
    rintro e w' ⟨rfl, hb⟩
    have HB := Kp.mk (((Below.refl w.heap.size w).alloc (Nat.le_refl _) _).trans (hb.mono (by simp)))
    clear hb
    go_wp2
    go_ret2
    exact ⟨rfl, HB.out⟩
  | fault a c =>
    obtain ⟨p, rfl, hp⟩ := er_open_fault hv
    clear hv
    have hlt := heap_lt hp
    have HP := Kp.mk hp
    clear hp
    go_enter Tryz.func79, Tryz.ntmps79
    go_wp2_with (fail)
    refine (as_ff p ⟨w.heap.size, 0, none⟩ (.pointer none) _ HT.out (by simp) (by simp)).mono ?_
    rintro e w' ⟨rfl, w1, hb, rfl⟩
    obtain ⟨hc, hB⟩ := hit_cell hb (.pointer (some ⟨p, 0, none⟩))
    have hp0 := blk_cell ((hB.block p hlt).trans HP.out) 0
    have HB := Kp.mk hB
    clear hb hB
    go_wp2
    go_ret2
    exact ⟨rfl, HB.out⟩

def Er.deeper (by_ : Int) : Er → Er
  | .none => .none
  | x => .fault (by_ + x.place) x.num
theorem deeper_calls (n : Int) (x : Er) (v : Value) (w : World) (hv : erK.K w x [v]) (hE : Env w) (h1 : -9223372036854775808 ≤ n + x.place) (h2 : n + x.place ≤ 9223372036854775807) :
    Calls Tryz.prog 74 #[.int .i64 n, v] w (Gives erK (x.deeper n) w) := by
  rcases x with _ | c | ⟨a, c⟩
  · obtain rfl := er_open_none hv
    clear hv
    go_enter Tryz.func74, Tryz.ntmps74
    go_wp2
    go_ret
    exact ⟨_, rfl, er_none _ _ _, Below.refl _ _⟩
  all_goals
    have HV := Kp.mk hv
    have HE := Kp.mk hE
    first | obtain rfl := er_open_code hv | obtain ⟨p, rfl, hp⟩ := er_open_fault hv
    clear hv hE
    try clear hp
    simp only [Er.place] at h1 h2
    go_enter Tryz.func74, Tryz.ntmps74
    go_wp2_with (fail)
    refine (place_calls _ _ _ HV.out HE.out).mono ?_
    rintro e w1 ⟨rfl, hb⟩
    have HB := Kp.mk hb
    clear hb
    simp only [Er.place, Er.placed]
    go_wp2_with (fail)
    refine (code_calls _ _ _ (erK.K_below HB.out HV.out) (HE.out.below HB.out)).mono ?_
    rintro e w2 ⟨rfl, hb2⟩
    have HB2 := Kp.mk (below_step HB.out hb2)
    clear hb2 HB
    simp only [Er.num]
    go_wp2_with (fail)
    refine (wrap_calls _ _ _).mono ?_
    rintro e w3 ⟨rfl, rfl⟩
    go_wp2
    go_ret
    refine ⟨_, rfl, ?_, HB2.out.alloc HB2.out.size _⟩
    simp only [Er.deeper, Er.place, Er.num, Int.add_zero]
    exact er_fault trivial HB2.out.size (heap_new _ _)
end Go.Proofs.YtimaliamidgflaaGreatDoor

namespace Go.Proofs.YtimaliamidgflaaGreatDoor
open Go.RowKit Go.Proofs.YtimaliamidgflaaGreatDoorW.PrintWords
set_option maxRecDepth 100000
set_option maxHeartbeats 1000000

theorem slice_open {α : Type} {e : Nat} {d : Kd α} {w : World} {xs : List α} {v : Value} (h : (Kd.slice e d).K w xs [v]) : ∃ A c, v = .slice A xs.length c ∧ xs.length ≤ c ∧ d.C w A xs.length xs := by
  obtain ⟨A, c, hv, h1, h2⟩ := h
  obtain rfl := List.singleton_inj.1 hv
  exact ⟨A, c, rfl, h1, h2⟩
theorem R_C {α : Type} {d : Kd α} {e base n c : Nat} {ok : Nat → Prop} {w : World} {A : Option Addr} {xs : List α} (h : d.R e w base ok (.slice A n c) xs) : d.C w A n xs ∧ n ≤ c := by
  obtain ⟨h1, h2, h3⟩ := Kd.R_reads' h
  subst h1
  exact ⟨h3, h2⟩
theorem C_len {α : Type} {d : Kd α} {w : World} {A : Option Addr} {n : Nat} {xs : List α} (h : d.C w A n xs) : xs.length = n ∧ n ≤ 9223372036854775807 := ⟨h.1, h.2.1⟩
theorem C_nil0 {α : Type} {d : Kd α} {w : World} {n : Nat} {xs : List α} (h : d.C w none n xs) : n = 0 ∧ xs = [] := by
  rcases Nat.eq_zero_or_pos n with h0 | h0
  · exact ⟨h0, List.eq_nil_of_length_eq_zero (h.1.trans h0)⟩
  · obtain ⟨ad, h1, _⟩ := h.2.2 h0
    cases h1
theorem R_empty {α : Type} (d : Kd α) (e : Nat) (w : World) (ok : Nat → Prop) (hok : ok w.heap.size) : d.R e (w.alloc (.cells #[] e)) w.heap.size ok (.slice (some ⟨w.heap.size, 0, none⟩) 0 0) [] := by
  refine ⟨fun k hk => ?_, [], ?_, Reps.none _ _⟩
  · have h : w.heap.size = k := by simpa [Value.ownBlock] using hk
    exact h ▸ hok
  · have h := World.ownsRow_made (e := e) (size := d.sz) w #[] 0 (Nat.le_refl _) (Nat.zero_le _) (by simp)
    simpa using h

theorem cloneB_calls (A : Option Addr) (n c : Nat) (xs : List Int) (w : World) (h : (Kd.int .u8).C w A n xs) (hl : n ≤ 140737488355328) :
    Calls Tryz.prog 64 #[.slice A n c] w (Gives bytesK xs w) := by
  obtain rfl := (C_len h).1
  have q : ∀ (w : World) (a : Option Addr) (n c n' c' : Nat), (binOp .eql 22 (.slice a n c) (.slice none n' c')).run Tryz.prog w = .ok (.bool a.isNone) w := fun w a n c n' c' => Lib.run_eql_slice_nil w _ _ a n c n' c' Tryz.underlying22
  rcases A with _ | ad
  · obtain ⟨hn, rfl⟩ := C_nil0 h
    clear h hn
    go_enter Tryz.func64, Tryz.ntmps64
    go_wp2
    go_ret
    exact ⟨_, rfl, ⟨_, rfl, Kd.R_nil _ _ _ _ _⟩, Below.refl _ _⟩
  · have HC := Kp.mk (Kd.C_below h ((Below.refl _ _).alloc (Nat.le_refl _) (.cells #[] 5)))
    clear h
    go_enter Tryz.func64, Tryz.ntmps64
    go_wp2_with (at_builtin; refine Kd.R_append_rows (w0 := w) (Kd.int .u8) w.heap.size rfl _ _ 22 5 (.int .u8 0) 1 rfl Tryz.underlying22 (by kernel_rfl) rfl (by decide) (by decide) _ [] xs _ _ _ (fun _ => True) (fun _ => False) rfl rfl (R_empty _ _ _ _ trivial) HC.out (fun _ _ h => h) (fun _ h => h.elim) (fun _ _ => trivial) ((Below.refl _ _).alloc (Nat.le_refl _) _) (by simp) (by simp; omega) ?_)
    intro v1 w1 hR hb _ _
    have HR := Kp.mk hR
    have HB := Kp.mk hb
    clear hR hb
    go_wp2
    go_ret
    exact ⟨_, rfl, ⟨_, rfl, HR.out⟩, HB.out⟩
end Go.Proofs.YtimaliamidgflaaGreatDoor

namespace Go.Proofs.YtimaliamidgflaaGreatDoor
open Go.RowKit Go.Proofs.YtimaliamidgflaaGreatDoorW.PrintWords
set_option maxRecDepth 100000
set_option maxHeartbeats 1000000
section
variable {ops : Array Oper} {rest : List Oper} {o : Oper} {a : Act} {Q : Exit → Act → World → Prop} {w0 W : World} {base : Nat} {v : Value} {s x : Operand}

theorem app_byte (hgd : o.guard = none) (ho : o.op = .call { callee := .builtin .append, args := #[s, x], argTypes := #[22, 22] })
    (xs : List Int) (p : Int) (hs : a.eval s = v) (hx : a.eval x = .slice (some ⟨W.heap.size, 0, none⟩) 1 1) (HO : (Kd.int .u8).R 5 W base (fun _ => True) v xs) (HB : Below base w0 W) (hbase : base ≤ W.heap.size) (hl : xs.length + 1 ≤ 140737488355328)
    (h : ∀ v1 w1, Kp ((Kd.int .u8).R 5 w1 base (fun _ => True) v1 (xs ++ [p])) → Kp (Below base w0 w1) → Kp (base ≤ w1.heap.size) → wpList Tryz.prog ops Q rest (a.put o.dst v1) w1) :
    wpList Tryz.prog ops Q (o :: rest) a (W.alloc (.cells #[.int .u8 p] 5)) :=
  Kd.R_append (w0 := w0) (Kd.int .u8) base hgd s x 22 5 (.int .u8 0) 1 ho Tryz.underlying22 (by kernel_rfl) rfl (by decide) (by decide) v xs p [.int .u8 p] (fun _ => True) (fun _ => False) hs hx rfl (fun _ h => h.elim) (fun _ _ => trivial) HO HB hbase (by omega)
    (fun v1 w1 h1 h2 h3 _ => h v1 w1 ⟨h1⟩ ⟨h2⟩ ⟨Nat.le_trans hbase h3.size⟩)
theorem app_text (hgd : o.guard = none) (ho : o.op = .call { callee := .builtin .append, args := #[s, x], argTypes := #[42, 42] })
    (xs : List ByteArray) (p : ByteArray) (hs : a.eval s = v) (hx : a.eval x = .slice (some ⟨W.heap.size, 0, none⟩) 1 1) (HO : Kd.string.R 9 W base (fun _ => True) v xs) (HB : Below base w0 W) (hbase : base ≤ W.heap.size) (hl : (xs.length + 1) * 16 ≤ 140737488355328)
    (h : ∀ v1 w1, Kp (Kd.string.R 9 w1 base (fun _ => True) v1 (xs ++ [p])) → Kp (Below base w0 w1) → Kp (base ≤ w1.heap.size) → wpList Tryz.prog ops Q rest (a.put o.dst v1) w1) :
    wpList Tryz.prog ops Q (o :: rest) a (W.alloc (.cells #[.string p] 9)) :=
  Kd.R_append (w0 := w0) Kd.string base hgd s x 42 9 (.string ⟨#[]⟩) 16 ho Tryz.underlying42 (by kernel_rfl) rfl (by decide) (by decide) v xs p [.string p] (fun _ => True) (fun _ => False) hs hx rfl (fun _ h => h.elim) (fun _ _ => trivial) HO HB hbase (by omega)
    (fun v1 w1 h1 h2 h3 _ => h v1 w1 ⟨h1⟩ ⟨h2⟩ ⟨Nat.le_trans hbase h3.size⟩)
/-- .. and what it has written. -/
theorem app_textG (hgd : o.guard = none) (ho : o.op = .call { callee := .builtin .append, args := #[s, x], argTypes := #[42, 42] })
    (xs : List ByteArray) (p : ByteArray) (hs : a.eval s = v) (hx : a.eval x = .slice (some ⟨W.heap.size, 0, none⟩) 1 1) (HO : Kd.string.R 9 W base (fun _ => True) v xs) (HB : Below base w0 W) (hbase : base ≤ W.heap.size) (hl : (xs.length + 1) * 16 ≤ 140737488355328)
    (h : ∀ v1 w1, Kp (Kd.string.R 9 w1 base (fun _ => True) v1 (xs ++ [p])) → Kp (Below base w0 w1) → Kp (base ≤ w1.heap.size) → Kp (W.grownBy w1 v.ownBlock) → wpList Tryz.prog ops Q rest (a.put o.dst v1) w1) :
    wpList Tryz.prog ops Q (o :: rest) a (W.alloc (.cells #[.string p] 9)) :=
  Kd.R_append (w0 := w0) Kd.string base hgd s x 42 9 (.string ⟨#[]⟩) 16 ho Tryz.underlying42 (by kernel_rfl) rfl (by decide) (by decide) v xs p [.string p] (fun _ => True) (fun _ => False) hs hx rfl (fun _ h => h.elim) (fun _ _ => trivial) HO HB hbase (by omega)
    (fun v1 w1 h1 h2 h3 _ => h v1 w1 ⟨h1⟩ ⟨h2⟩ ⟨Nat.le_trans hbase h3.size⟩ ⟨h3⟩)
theorem app_str (hgd : o.guard = none) (ho : o.op = .call { callee := .builtin .append, args := #[s, x], argTypes := #[22, 9] })
    (xs : List Int) (y : ByteArray) (hs : a.eval s = v) (hx : a.eval x = .string y) (HO : (Kd.int .u8).R 5 W base (fun _ => True) v xs) (HB : Below base w0 W) (hbase : base ≤ W.heap.size) (hl : xs.length + y.size ≤ 140737488355328)
    (h : ∀ v1 w1, Kp ((Kd.int .u8).R 5 w1 base (fun _ => True) v1 (xs ++ bytesOf y)) → Kp (Below base w0 w1) → Kp (base ≤ w1.heap.size) → wpList Tryz.prog ops Q rest (a.put o.dst v1) w1) :
    wpList Tryz.prog ops Q (o :: rest) a W :=
  print_append_str (w0 := w0) base hgd s x 22 9 5 ho Tryz.underlying22 Tryz.underlying9 (by kernel_rfl) v xs y hs hx (Kd.own_of_R HO) HB hbase hl
    (fun v1 w1 h1 h2 h3 => h v1 w1 ⟨Kd.R_of_own h1 (fun _ _ => trivial)⟩ ⟨h2⟩ ⟨Nat.le_trans hbase h3.size⟩)
theorem app_bytes (hgd : o.guard = none) (ho : o.op = .call { callee := .builtin .append, args := #[s, x], argTypes := #[22, 22] })
    (xs ys : List Int) (A : Option Addr) (m c : Nat) (hs : a.eval s = v) (hx : a.eval x = .slice A m c) (HO : (Kd.int .u8).R 5 W base (fun _ => True) v xs) (HR : (Kd.int .u8).C W A m ys) (HB : Below base w0 W) (hbase : base ≤ W.heap.size) (hl : xs.length + m ≤ 140737488355328)
    (h : ∀ v1 w1, Kp ((Kd.int .u8).R 5 w1 base (fun _ => True) v1 (xs ++ ys)) → Kp (Below base w0 w1) → Kp (base ≤ w1.heap.size) → wpList Tryz.prog ops Q rest (a.put o.dst v1) w1) :
    wpList Tryz.prog ops Q (o :: rest) a W :=
  Kd.R_append_rows (w0 := w0) (Kd.int .u8) base hgd s x 22 5 (.int .u8 0) 1 ho Tryz.underlying22 (by kernel_rfl) rfl (by decide) (by decide) v xs ys A m c (fun _ => True) (fun _ => False) hs hx HO HR (fun _ _ h => h) (fun _ h => h.elim) (fun _ _ => trivial) HB hbase (by omega)
    (fun v1 w1 h1 h2 h3 _ => h v1 w1 ⟨h1⟩ ⟨h2⟩ ⟨Nat.le_trans hbase h3.size⟩)
/-- At a step of a region that draws its order. -/
theorem step_bytes {K : Act → World → Prop} {E : Prop} (hgd : o.guard = none) (ho : o.op = .call { callee := .builtin .append, args := #[s, x], argTypes := #[22, 22] })
    (xs ys : List Int) (A : Option Addr) (m c : Nat) (hs : a.eval s = v) (hx : a.eval x = .slice A m c) (HO : (Kd.int .u8).R 5 W base (fun _ => True) v xs) (HR : (Kd.int .u8).C W A m ys) (HB : Below base w0 W) (hbase : base ≤ W.heap.size) (hl : xs.length + m ≤ 140737488355328)
    (h : ∀ v1 w1, Kp ((Kd.int .u8).R 5 w1 base (fun _ => True) v1 (xs ++ ys)) → Kp (Below base w0 w1) → Kp (base ≤ w1.heap.size) → K (a.put o.dst v1) w1) :
    if Region.wanted o (yielded ops a.tmps) = true then Oper.wp Tryz.prog o a W K Q else E := by
  have hw : Region.wanted o (yielded ops a.tmps) = true := by simp [Region.wanted, hgd]
  have := Kd.R_append_rows_step (P := Tryz.prog) (ops := ops) (o := o) (a := a) (Kc := K) (Q := Q) (w0 := w0) (Kd.int .u8) base hw s x 22 5 (.int .u8 0) 1 ho Tryz.underlying22 (by kernel_rfl) rfl (by decide) (by decide) v xs ys A m c (fun _ => True) (fun _ => False) hs hx HO HR (fun _ _ h => h) (fun _ h => h.elim) (fun _ _ => trivial) HB hbase (by omega)
    (fun v1 w1 h1 h2 h3 _ => h v1 w1 ⟨h1⟩ ⟨h2⟩ ⟨Nat.le_trans hbase h3.size⟩)
  rw [if_pos hw] at this ⊢
  exact this
theorem step_str {K : Act → World → Prop} {E : Prop} (hgd : o.guard = none) (ho : o.op = .call { callee := .builtin .append, args := #[s, x], argTypes := #[22, 9] })
    (xs : List Int) (y : ByteArray) (hs : a.eval s = v) (hx : a.eval x = .string y) (HO : (Kd.int .u8).R 5 W base (fun _ => True) v xs) (HB : Below base w0 W) (hbase : base ≤ W.heap.size) (hl : xs.length + y.size ≤ 140737488355328)
    (h : ∀ v1 w1, Kp ((Kd.int .u8).R 5 w1 base (fun _ => True) v1 (xs ++ bytesOf y)) → Kp (Below base w0 w1) → Kp (base ≤ w1.heap.size) → K (a.put o.dst v1) w1) :
    if Region.wanted o (yielded ops a.tmps) = true then Oper.wp Tryz.prog o a W K Q else E := by
  have hw : Region.wanted o (yielded ops a.tmps) = true := by simp [Region.wanted, hgd]
  rw [if_pos hw]
  have HO' := Kd.own_of_R HO
  obtain ⟨i0, hi, hzz⟩ := Option.map_eq_some_iff.1 (show (Tryz.prog.info? 5).map (fun i => (i.zero, i.size, i.bytes)) = some (some (.int .u8 0), 1, 1) by kernel_rfl)
  simp only [Prod.mk.injEq] at hzz
  obtain ⟨hz0, hz1, hz2⟩ := hzz
  obtain ⟨v', w', hr, h2, h3, -⟩ := Lib.run_append_own_string (P := Tryz.prog) W base 22 9 o.type 5 i0 Tryz.underlying22 Tryz.underlying9 hi hz0 hz1 hz2 v xs.length (nums .u8 xs) HO' y (by simp only [maxLen]; omega) hl hbase
  have hl2 : (xs ++ bytesOf y).length = xs.length + y.size := by rw [List.length_append, bytesOf_length]
  have hc : nums .u8 (xs ++ bytesOf y) = nums .u8 xs ++ Lib.strCells y := by
    rw [nums_append]
    congr 1
    simp [nums, bytesOf, Lib.strCells]
  have hK := h v' w' ⟨Kd.R_of_own (by show w'.ownsRow base _ 1 v' (xs ++ bytesOf y).length (nums .u8 (xs ++ bytesOf y)); rw [hl2, hc]; exact h2) (fun _ _ => trivial)⟩ ⟨HB.grown h3 hbase (own_base HO')⟩ ⟨Nat.le_trans hbase h3.size⟩
  unfold Oper.wp execOp
  simp only [ho, resolve, invoke, builtin, Sem.run_bind, Sem.run_pure, Result.andThen_ok, List.map_toArray, List.map_cons, List.map_nil, hs, hx, hr]
  exact hK
end
end Go.Proofs.YtimaliamidgflaaGreatDoor

namespace Go.Proofs.YtimaliamidgflaaGreatDoor
open Go.RowKit Go.Proofs.YtimaliamidgflaaGreatDoorW.PrintWords
set_option maxRecDepth 100000
set_option maxHeartbeats 1000000

/-- octets.ask: why so many bytes are not there. -/
def askE (len a n : Int) : Er := if a < 0 ∨ n < 0 then .code 1 else if 0 < n ∧ len - n < a then .code 3 else .none
def shortE (a : Int) (x : Er) : Er := if x.num = 3 then x.deeper a else x
theorem ask_calls (A : Option Addr) (len cap : Nat) (a n : Int) (w : World) (hl : len ≤ 140737488355328) (hn : n ≤ 9223372036854775807) :
    Calls Tryz.prog 62 #[.slice A len cap, .int .i64 a, .int .i64 n] w fun e w' => (∃ v, e = .returned v ∧ erK.M w w.heap.size (fun _ => True) (askE len a n) [v]) ∧ w = w' := by
  unfold askE
  by_cases h1 : a < 0
  · have b1 : decide (a < 0) = true := by simpa using h1
    rw [if_pos (.inl h1)]
    go_enter Tryz.func62, Tryz.ntmps62
    go_wp2
    go_ret
    exact ⟨⟨_, rfl, er_code _ _ _ _⟩, rfl⟩
  · have b1 : decide (a < 0) = false := by simpa using h1
    by_cases h2 : n < 0
    · have b2 : decide (n < 0) = true := by simpa using h2
      rw [if_pos (.inr h2)]
      go_enter Tryz.func62, Tryz.ntmps62
      go_wp2
      go_ret
      exact ⟨⟨_, rfl, er_code _ _ _ _⟩, rfl⟩
    · have b2 : decide (n < 0) = false := by simpa using h2
      rw [if_neg (by omega)]
      by_cases h3 : 0 < n
      · have b3 : decide (0 < n) = true := by simpa using h3
        by_cases h4 : (len : Int) - n < a
        · rw [if_pos ⟨h3, h4⟩]
          have b4 : decide ((len : Int) - n < a) = true := by simpa using h4
          go_enter Tryz.func62, Tryz.ntmps62
          go_wp2
          go_ret
          exact ⟨⟨_, rfl, er_code _ _ _ _⟩, rfl⟩
        · rw [if_neg (by omega)]
          have b4 : decide ((len : Int) - n < a) = false := by simpa using h4
          go_enter Tryz.func62, Tryz.ntmps62
          go_wp2
          go_ret
          exact ⟨⟨_, rfl, er_none _ _ _⟩, rfl⟩
      · have b3 : decide (0 < n) = false := by simpa using h3
        rw [if_neg (by omega)]
        go_enter Tryz.func62, Tryz.ntmps62
        go_wp2
        go_ret
        exact ⟨⟨_, rfl, er_none _ _ _⟩, rfl⟩
end Go.Proofs.YtimaliamidgflaaGreatDoor

namespace Go.Proofs.YtimaliamidgflaaGreatDoor
open Go.RowKit Go.Proofs.YtimaliamidgflaaGreatDoorW.PrintWords
set_option maxRecDepth 100000
set_option maxHeartbeats 1000000

theorem is_calls (x : Er) (v : Value) (k : Int) (w : World) (hv : erK.K w x [v]) (hk : k ≠ 0) (b : Bool) (hb : (x.num == k) = b) (hc : x ≠ .code 0) :
    Calls Tryz.prog 30 #[v, .iface 29 (.int .i64 k)] w fun e w' => e = .returned (.bool b) ∧ w = w' := by
  rcases x with _ | c | ⟨a, c⟩
  · obtain rfl := er_open_none hv
    have : b = false := by rw [← hb]; simp only [Er.num]; simpa using fun h => hk h.symm
    subst this
    exact is_nil k w
  · obtain rfl := er_open_code hv
    exact is_e c k b hb w
  · obtain ⟨p, rfl, hp⟩ := er_open_fault hv
    exact is_f p c k b hb w (blk_cell hp 1)

theorem er_grow {x : Er} {v : Value} {w w1 : World} {b0 b1 : Nat} {ok ok' : Nat → Prop} (h : erK.M w b0 ok x [v]) (hb : Below w.heap.size w w1) (hle : b1 ≤ b0) (hok : ∀ k, ok k → ok' k) : erK.M w1 b1 ok' x [v] :=
  erK.M_lower hle (erK.M_mono hok (Kd.M_below h hb))

/-- octets.short at what octets.ask answers. -/
theorem short_calls (a : Int) (x : Er) (v : Value) (w : World) (hv : erK.M w w.heap.size (fun _ => True) x [v]) (hE : Env w) (hx : x = .none ∨ x = .code 1 ∨ x = .code 3) (h1 : -9223372036854775808 ≤ a) (h2 : a ≤ 9223372036854775807) :
    Calls Tryz.prog 63 #[.int .i64 a, v] w (Gives erK (shortE a x) w) := by
  have HV := Kp.mk hv
  have HE := Kp.mk hE
  clear hv hE
  rcases hx with rfl | rfl | rfl
  · go_enter Tryz.func63, Tryz.ntmps63
    go_wp2_with (fail)
    refine (is_calls _ _ 3 _ (erK.K_of_M HV.out) (by decide) false rfl (by decide)).mono ?_
    rintro e w1 ⟨rfl, rfl⟩
    go_wp2
    go_ret
    exact ⟨_, rfl, HV.out, Below.refl _ _⟩
  · go_enter Tryz.func63, Tryz.ntmps63
    go_wp2_with (fail)
    refine (is_calls _ _ 3 _ (erK.K_of_M HV.out) (by decide) false rfl (by decide)).mono ?_
    rintro e w1 ⟨rfl, rfl⟩
    go_wp2
    go_ret
    exact ⟨_, rfl, HV.out, Below.refl _ _⟩
  · go_enter Tryz.func63, Tryz.ntmps63
    go_wp2_with (fail)
    refine (is_calls _ _ 3 _ (erK.K_of_M HV.out) (by decide) true rfl (by decide)).mono ?_
    rintro e w1 ⟨rfl, rfl⟩
    go_wp2_with (fail)
    refine (deeper_calls _ _ _ _ (erK.K_of_M HV.out) HE.out (by simpa [Er.place] using h1) (by simpa [Er.place] using h2)).mono ?_
    rintro e w1 ⟨v1, rfl, hm, hb⟩
    have HM := Kp.mk hm
    have HB := Kp.mk hb
    clear hm hb
    go_wp2
    go_ret
    exact ⟨_, rfl, HM.out, HB.out⟩

theorem askE_cases (len a n : Int) : askE len a n = .none ∨ askE len a n = .code 1 ∨ askE len a n = .code 3 := by
  unfold askE
  split
  · exact .inr (.inl rfl)
  · split
    · exact .inr (.inr rfl)
    · exact .inl rfl

/-- What is asked of bytes: each lies in its range. -/
def Byts (xs : List Int) : Prop := ∀ x ∈ xs, 0 ≤ x ∧ x ≤ 255
/-- Part: some bytes; why not. -/
def partE (len a n : Int) : Er := shortE a (askE len a n)
def partV (xs : List Int) (a n : Int) : List Int := if askE xs.length a n = .none then (xs.drop a.toNat).take n.toNat else []

theorem part_calls (A : Option Addr) (c : Nat) (xs : List Int) (a n : Int) (w : World) (h : (Kd.int .u8).C w A xs.length xs) (hc : xs.length ≤ c) (_ : c ≤ 9223372036854775807) (hE : Env w) (hl : xs.length ≤ 140737488355328) (h1 : -9223372036854775808 ≤ a) (h2 : a ≤ 9223372036854775807) (hn : n ≤ 9223372036854775807) :
    Calls Tryz.prog 44 #[.slice A xs.length c, .int .i64 a, .int .i64 n] w (Gives2 bytesK erK (partV xs a n) (partE xs.length a n) w) := by
  have HE := Kp.mk hE
  clear hE
  by_cases hx : askE xs.length a n = .none
  · unfold partV partE
    rw [if_pos hx, hx]
    have ha : ¬ (a < 0 ∨ n < 0) := fun hh => by unfold askE at hx; rw [if_pos hh] at hx; cases hx
    have hb : ¬ (0 < n ∧ (xs.length : Int) - n < a) := fun hh => by unfold askE at hx; rw [if_neg ha, if_pos hh] at hx; cases hx
    have HX := Kp.mk hx
    clear hx
    by_cases h0 : n = 0
    · subst h0
      go_enter Tryz.func44, Tryz.ntmps44
      go_wp2_with (fail)
      refine (ask_calls _ _ _ _ _ _ hl (by omega)).mono ?_
      rintro e w1 ⟨⟨v, rfl, hv⟩, rfl⟩
      rw [HX.out] at hv
      obtain rfl := er_open_none (erK.K_of_M hv)
      clear hv
      go_wp2
      go_ret2
      exact ⟨_, _, rfl, ⟨_, rfl, by simpa using Kd.R_nil _ _ _ _ _⟩, er_none _ _ _, Below.refl _ _⟩
    · obtain ⟨ad, rfl⟩ : ∃ ad, A = some ad := by
        rcases A with _ | ad
        · have := (C_nil0 h).1; omega
        · exact ⟨ad, rfl⟩
      have b0 : (n == 0) = false := by simpa using h0
      have hs : wrap64 (a + n) = a + n := by unfold wrap64; omega
      have hmid := Kd.C_mid (c := c) (lo := a.toNat) (hi := (a + n).toNat) h (by omega) (by omega) hc
      rw [if_neg (by omega)] at hmid
      have hle : ((xs.drop a.toNat).take n.toNat).length = (a + n).toNat - a.toNat := by rw [List.length_take, List.length_drop]; omega
      have hC : (Kd.int .u8).C w (some (ad.add a.toNat)) ((a + n).toNat - a.toNat) ((xs.drop a.toNat).take n.toNat) := by
        have e1 : (xs.take (a + n).toNat).drop a.toNat = (xs.drop a.toNat).take n.toNat := by rw [List.drop_take]; congr 1; omega
        rw [e1, hle] at hmid
        simpa [Kd.int, Kd.scalar] using hmid
      have HC := Kp.mk hC
      clear h hmid hC hle
      go_enter Tryz.func44, Tryz.ntmps44
      go_wp2_with (fail)
      refine (ask_calls _ _ _ _ _ _ hl (by omega)).mono ?_
      rintro e w1 ⟨⟨v, rfl, hv⟩, rfl⟩
      rw [HX.out] at hv
      obtain rfl := er_open_none (erK.K_of_M hv)
      clear hv
      go_wp2_with (fail)
      refine (cloneB_calls _ _ _ _ _ HC.out (by omega)).mono ?_
      rintro e w1 ⟨v, rfl, hm, hb⟩
      have HM := Kp.mk hm
      have HB := Kp.mk hb
      clear hm hb
      go_wp2
      go_ret2
      exact ⟨_, _, rfl, HM.out, er_none _ _ _, HB.out⟩
  · unfold partV partE
    rw [if_neg hx]
    rcases askE_cases xs.length a n with h0 | h0 | h0
    · exact absurd h0 hx
    all_goals
      rw [h0]
      have HX := Kp.mk h0
      clear hx h0
      go_enter Tryz.func44, Tryz.ntmps44
      go_wp2_with (fail)
      refine (ask_calls _ _ _ _ _ _ hl (by omega)).mono ?_
      rintro e w1 ⟨⟨v, rfl, hv⟩, rfl⟩
      rw [HX.out] at hv
      have HV := Kp.mk hv
      obtain rfl := er_open_code (erK.K_of_M hv)
      clear hv
      go_wp2_with (fail)
      refine (short_calls _ _ _ _ HV.out HE.out (by first | exact .inr (.inl rfl) | exact .inr (.inr rfl)) h1 h2).mono ?_
      rintro e w1 ⟨v, rfl, hm, hb⟩
      have HM := Kp.mk hm
      have HB := Kp.mk hb
      clear hm hb
      go_wp2
      go_ret2
      exact ⟨_, _, rfl, ⟨_, rfl, Kd.R_nil _ _ _ _ _⟩, HM.out, HB.out⟩
end Go.Proofs.YtimaliamidgflaaGreatDoor

namespace Go.Proofs.YtimaliamidgflaaGreatDoor
open Go.RowKit Go.Proofs.YtimaliamidgflaaGreatDoorW.PrintWords
set_option maxRecDepth 100000
set_option maxHeartbeats 1000000

/-- The number of some bytes, the highest first. -/
def be (xs : List Int) : Int := xs.foldl (fun v c => v * 256 + c) 0
theorem be_snoc (xs : List Int) (c : Int) : be (xs ++ [c]) = be xs * 256 + c := by simp [be]
theorem be_from : ∀ (xs : List Int) (v : Int) (m : Nat), 0 ≤ v → v < 256 ^ m → Byts xs → 0 ≤ xs.foldl (fun v c => v * 256 + c) v ∧ xs.foldl (fun v c => v * 256 + c) v < 256 ^ (m + xs.length) := by
  intro xs
  induction xs with
  | nil => intro v m h0 h1 _; exact ⟨h0, h1⟩
  | cons c xs ih =>
    intro v m h0 h1 h
    have h2 := h c (by simp)
    have h3 := ih (v * 256 + c) (m + 1) (by omega) (by rw [Int.pow_succ]; omega) (fun x hx => h x (List.mem_cons_of_mem _ hx))
    rw [List.foldl_cons, List.length_cons, show m + (xs.length + 1) = m + 1 + xs.length by omega]
    exact h3
theorem be_range (xs : List Int) (h : Byts xs) : 0 ≤ be xs ∧ be xs < 256 ^ xs.length := by
  have h1 := be_from xs 0 0 (by omega) (by decide) h
  rw [Nat.zero_add] at h1
  exact h1
theorem or_step (v c : Int) (h0 : 0 ≤ v) (h1 : v < 16777216) (h2 : 0 ≤ c) (h3 : c ≤ 255) : bits .or .u32 (v * 256 % 4294967296) (c % 4294967296) = v * 256 + c := by
  rw [Int.emod_eq_of_lt (by omega) (by omega), Int.emod_eq_of_lt (by omega) (by omega), u32_or _ _ (by omega) (by omega) (by omega) (by omega), nat_join 8 _ _ (by omega) (by omega)]
  omega
def numV (xs : List Int) (a n : Int) : Int := if askE xs.length a n = .none then be ((xs.drop a.toNat).take n.toNat) else 0

theorem number_calls (A : Option Addr) (c : Nat) (xs : List Int) (a n : Int) (w : World) (h : (Kd.int .u8).C w A xs.length xs) (hx8 : Byts xs) (hc : xs.length ≤ c) (_ : c ≤ 9223372036854775807) (hE : Env w) (hl : xs.length ≤ 140737488355328) (h1 : -9223372036854775808 ≤ a) (h2 : a ≤ 9223372036854775807) (hn : n ≤ 4) (hn0 : 0 < n) :
    Calls Tryz.prog 65 #[.slice A xs.length c, .int .i64 a, .int .i64 n] w (Gives2 (Kd.int .u32) erK (numV xs a n) (partE xs.length a n) w) := by
  have HE := Kp.mk hE
  clear hE
  have HX8 := Kp.mk hx8
  clear hx8
  by_cases hx : askE xs.length a n = .none
  · unfold numV partE
    rw [if_pos hx, hx]
    have ha : ¬ (a < 0 ∨ n < 0) := fun hh => by unfold askE at hx; rw [if_pos hh] at hx; cases hx
    have hb : ¬ (0 < n ∧ (xs.length : Int) - n < a) := fun hh => by unfold askE at hx; rw [if_neg ha, if_pos hh] at hx; cases hx
    have HX := Kp.mk hx
    clear hx
    obtain ⟨ad, rfl⟩ : ∃ ad, A = some ad := by
      rcases A with _ | ad
      · have := (C_nil0 h).1; omega
      · exact ⟨ad, rfl⟩
    have hs : wrap64 (a + n) = a + n := by unfold wrap64; omega
    have hmid := Kd.C_mid (c := c) (lo := a.toNat) (hi := (a + n).toNat) h (by omega) (by omega) hc
    rw [if_neg (by omega)] at hmid
    have hle : ((xs.drop a.toNat).take n.toNat).length = (a + n).toNat - a.toNat := by rw [List.length_take, List.length_drop]; omega
    have hC : (Kd.int .u8).C w (some (ad.add a.toNat)) ((a + n).toNat - a.toNat) ((xs.drop a.toNat).take n.toNat) := by
      have e1 : (xs.take (a + n).toNat).drop a.toNat = (xs.drop a.toNat).take n.toNat := by rw [List.drop_take]; congr 1; omega
      rw [e1, hle] at hmid
      simpa [Kd.int, Kd.scalar] using hmid
    have hY : Byts ((xs.drop a.toNat).take n.toNat) := fun x hx => HX8.out x (List.mem_of_mem_drop (List.mem_of_mem_take hx))
    obtain ⟨ys, hys⟩ : ∃ ys, (xs.drop a.toNat).take n.toNat = ys := ⟨_, rfl⟩
    rw [hys] at hC hY hle ⊢
    have hm4 : ys.length ≤ 4 := by omega
    have HC := Kp.mk hC
    have HY := Kp.mk hY
    have HL := Kp.mk hle
    clear h hmid hC hle hys hY
    go_enter Tryz.func65, Tryz.ntmps65
    go_wp2_with (fail)
    refine (ask_calls _ _ _ _ _ _ hl (by omega)).mono ?_
    rintro e w1 ⟨⟨v, rfl, hv⟩, rfl⟩
    rw [HX.out] at hv
    obtain rfl := er_open_none (erK.K_of_M hv)
    clear hv
    go_wp2_with (fail)
    go_loop [9, 28] (fun v i => ∃ k : Nat, k ≤ ys.length ∧ i = .int .i64 k ∧ v = .int .u32 (be (ys.take k))) (fun _ i => ys.length - (intOf i).toNat)
    case atStart => exact ⟨0, Nat.zero_le _, rfl, rfl⟩
    case round =>
      obtain ⟨k, hk, rfl, rfl⟩ := hrel
      rw [← HL.out]
      by_cases hlt : k < ys.length
      · obtain ⟨ad', e1, hcell⟩ := at_nat HC.out k (by rw [← HL.out]; omega)
        cases e1
        have hr := be_range _ (fun x hx => HY.out x (List.mem_of_mem_take hx) : Byts (ys.take k))
        have hlk : (ys.take k).length = k := by rw [List.length_take]; omega
        have hy := HY.out _ (getD_mem ys 0 k hlt)
        have ht := take_snoc ys 0 k hlt
        have HR := Kp.mk hr
        have HT := Kp.mk ht
        have HK := Kp.mk hlk
        clear hr ht hlk
        go_wp2
        have hp : (256 : Int) ^ k ≤ 256 ^ 3 := by
          have : (256 : Nat) ^ k ≤ 256 ^ 3 := Nat.pow_le_pow_right (by decide) (by omega)
          exact Int.ofNat_le.2 this
        have h6 := HR.out
        rw [HK.out] at h6
        refine ⟨⟨k + 1, by omega, by go_num, ?_⟩, by simp [intOf]; omega⟩
        rw [HT.out, be_snoc, show ys[k] = ys.getD k 0 by simp [List.getD_eq_getElem?_getD, hlt], or_step _ _ h6.1 (by omega) hy.1 hy.2]
      · have ht : ys.take k = ys := List.take_of_length_le (by omega)
        rw [ht]
        have HK : k = ys.length := by omega
        subst HK
        have HR := Kp.mk (be_range ys HY.out)
        clear ht hlt
        go_wp2
        go_ret2
        exact ⟨_, _, rfl, rfl, er_none _ _ _, Below.refl _ _⟩
  · unfold numV partE
    rw [if_neg hx]
    rcases askE_cases xs.length a n with h0 | h0 | h0
    · exact absurd h0 hx
    all_goals
      rw [h0]
      have HX := Kp.mk h0
      clear hx h0
      go_enter Tryz.func65, Tryz.ntmps65
      go_wp2_with (fail)
      refine (ask_calls _ _ _ _ _ _ hl (by omega)).mono ?_
      rintro e w1 ⟨⟨v, rfl, hv⟩, rfl⟩
      rw [HX.out] at hv
      have HV := Kp.mk hv
      obtain rfl := er_open_code (erK.K_of_M hv)
      clear hv
      go_wp2_with (fail)
      refine (short_calls _ _ _ _ HV.out HE.out (by first | exact .inr (.inl rfl) | exact .inr (.inr rfl)) h1 h2).mono ?_
      rintro e w1 ⟨v, rfl, hm, hb⟩
      have HM := Kp.mk hm
      have HB := Kp.mk hb
      clear hm hb
      go_wp2
      go_ret2
      exact ⟨_, _, rfl, rfl, HM.out, HB.out⟩

/-- octets.U16: the number of two bytes. -/
def u16V (xs : List Int) (a : Int) : Int := numV xs a 2
theorem u16_range (xs : List Int) (a : Int) (h : Byts xs) : 0 ≤ numV xs a 2 ∧ numV xs a 2 ≤ 65535 := by
  unfold numV
  split
  · have h1 := be_range ((xs.drop a.toNat).take (2 : Int).toNat) (fun x hx => h x (List.mem_of_mem_drop (List.mem_of_mem_take hx)))
    have h2 : ((xs.drop a.toNat).take (2 : Int).toNat).length ≤ 2 := by rw [List.length_take]; exact Nat.min_le_left _ _
    have h3 : (256 : Nat) ^ ((xs.drop a.toNat).take (2 : Int).toNat).length ≤ 256 ^ 2 := Nat.pow_le_pow_right (by decide) h2
    have h4 : (256 : Int) ^ ((xs.drop a.toNat).take (2 : Int).toNat).length ≤ 256 ^ 2 := Int.ofNat_le.2 h3
    omega
  · omega
theorem u16_calls (A : Option Addr) (c : Nat) (xs : List Int) (a : Int) (w : World) (h : (Kd.int .u8).C w A xs.length xs) (hx8 : Byts xs) (hc : xs.length ≤ c) (hcm : c ≤ 9223372036854775807) (hE : Env w) (hl : xs.length ≤ 140737488355328) (h1 : -9223372036854775808 ≤ a) (h2 : a ≤ 9223372036854775807) :
    Calls Tryz.prog 46 #[.slice A xs.length c, .int .i64 a] w (Gives2 (Kd.int .i64) erK (numV xs a 2) (partE xs.length a 2) w) := by
  have H := Kp.mk (number_calls A c xs a 2 w h hx8 hc hcm hE hl h1 h2 (by omega) (by omega))
  have hr := u16_range xs a hx8
  clear h hx8 hE
  go_enter Tryz.func46, Tryz.ntmps46
  go_wp2_with (fail)
  refine H.out.mono ?_
  rintro e w1 ⟨v1, v2, rfl, hm1, hm2, hb⟩
  obtain rfl : v1 = .int .u32 (numV xs a 2) := List.singleton_inj.1 hm1
  have HM := Kp.mk hm2
  have HB := Kp.mk hb
  clear hm1 hm2 hb
  go_wp2
  go_ret2
  exact ⟨_, _, rfl, rfl, HM.out, HB.out⟩
end Go.Proofs.YtimaliamidgflaaGreatDoor

namespace Go.Proofs.YtimaliamidgflaaGreatDoor
open Go.RowKit Go.Proofs.YtimaliamidgflaaGreatDoorW.PrintWords

/-- Nothing of before has changed, and the listed variables are as they were. -/
structure St (w0 W : World) : Prop where
  below : Below w0.heap.size w0 W
  env : Env W
theorem St.start {w : World} (h : Env w) : St w w := ⟨Below.refl _ _, h⟩
theorem St.step {w0 W W' : World} (h : St w0 W) (hb : Below W.heap.size W W') : St w0 W' := ⟨below_step h.below hb, h.env.below hb⟩
theorem St.alloc {w0 W : World} (h : St w0 W) (o : Obj) : St w0 (W.alloc o) := h.step ((Below.refl _ _).alloc (Nat.le_refl _) _)
theorem St.size {w0 W : World} (h : St w0 W) : w0.heap.size ≤ W.heap.size := h.below.size

theorem M_cap {α : Type} {t : TypeId} {d : Kd α} {b n c : Nat} {ok : Nat → Prop} {w : World} {A : Option Addr} {xs : List α} (h : (Kd.slice t d).M w b ok xs [.slice A n c]) : c ≤ 9223372036854775807 := by
  obtain ⟨v, hv, hR⟩ := h
  obtain rfl := List.singleton_inj.1 hv
  obtain ⟨inner, ho⟩ := Kd.R_own hR
  rcases ho.2 with ⟨h1, -⟩ | ⟨g, cap, cur, hv, -, -, -, hm, -⟩
  · injection h1 with _ _ h3; omega
  · injection hv with _ _ h3; subst h3; exact hm
theorem at_natB {w : World} {A : Option Addr} {n : Nat} {xs : List Bool} (h : Kd.bool.C w A n xs) (i : Nat) (hi : i < n) : ∃ ad, A = some ad ∧ w.cell? (ad.add i) = some (.bool (xs.getD i false)) := by
  obtain ⟨ad, e, hc⟩ := Kd.at_bool h (i : Int) (by omega) (by omega)
  exact ⟨ad, e, by simpa [rdOf] using hc⟩
section
variable {P : Program} {f : FuncId} {args : Array Value} {w0 W : World} {Q : Ending → World → Prop}
theorem q_ {r : Value} (H : Calls P f args W fun e w' => e = .returned r ∧ W = w') (k : Q (.returned r) W) : Calls P f args W Q :=
  H.mono fun e w' ⟨he, hw⟩ => by subst he; subst hw; exact k
theorem b_ {r : Value} (H : Calls P f args W fun e w' => e = .returned r ∧ Below W.heap.size W w') (HS : Kp (St w0 W)) (k : ∀ W', Kp (Below W.heap.size W W') → Kp (St w0 W') → Q (.returned r) W') : Calls P f args W Q :=
  H.mono fun e w' ⟨he, hb⟩ => by subst he; exact k w' ⟨hb⟩ ⟨HS.out.step hb⟩
theorem g_ {α : Type} {d : Kd α} {x : α} (H : Calls P f args W (Gives d x W)) (HS : Kp (St w0 W)) (k : ∀ v W', Kp (d.M W' W.heap.size (fun _ => True) x [v]) → Kp (Below W.heap.size W W') → Kp (St w0 W') → Q (.returned v) W') : Calls P f args W Q :=
  H.mono fun e w' ⟨v, he, hm, hb⟩ => by subst he; exact k v w' ⟨hm⟩ ⟨hb⟩ ⟨HS.out.step hb⟩
/-- .. at a row. -/
theorem gs_ {α : Type} {t : TypeId} {d : Kd α} {xs : List α} (H : Calls P f args W (Gives (Kd.slice t d) xs W)) (HS : Kp (St w0 W)) (k : ∀ A c W', xs.length ≤ c → c ≤ 9223372036854775807 → Kp (d.C W' A xs.length xs) → Kp ((Kd.slice t d).M W' W.heap.size (fun _ => True) xs [.slice A xs.length c]) → Kp (Below W.heap.size W W') → Kp (St w0 W') → Q (.returned (.slice A xs.length c)) W') : Calls P f args W Q :=
  g_ H HS fun v W' HM HB HS' => by
    obtain ⟨A, c, rfl, hc, hC⟩ := slice_open ((Kd.slice t d).K_of_M HM.out)
    exact k A c W' hc (M_cap HM.out) ⟨hC⟩ HM HB HS'
theorem g2_ {α β : Type} {d1 : Kd α} {d2 : Kd β} {x : α} {y : β} (H : Calls P f args W (Gives2 d1 d2 x y W)) (HS : Kp (St w0 W))
    (k : ∀ v1 v2 W', Kp (d1.M W' W.heap.size (fun _ => True) x [v1]) → Kp (d2.M W' W.heap.size (fun _ => True) y [v2]) → Kp (Below W.heap.size W W') → Kp (St w0 W') → Q (.returned (.tuple #[v1, v2])) W') : Calls P f args W Q :=
  H.mono fun e w' ⟨v1, v2, he, h1, h2, hb⟩ => by subst he; exact k v1 v2 w' ⟨h1⟩ ⟨h2⟩ ⟨hb⟩ ⟨HS.out.step hb⟩
/-- .. a row, and no error. -/
theorem g2sn_ {α : Type} {t : TypeId} {d : Kd α} {xs : List α} (H : Calls P f args W (Gives2 (Kd.slice t d) erK xs .none W)) (HS : Kp (St w0 W))
    (k : ∀ A c W', xs.length ≤ c → c ≤ 9223372036854775807 → Kp (d.C W' A xs.length xs) → Kp ((Kd.slice t d).M W' W.heap.size (fun _ => True) xs [.slice A xs.length c]) → Kp (Below W.heap.size W W') → Kp (St w0 W') → Q (.returned (.tuple #[.slice A xs.length c, .nilIface])) W') : Calls P f args W Q :=
  g2_ H HS fun v1 v2 W' HM HE HB HS' => by
    obtain ⟨A, c, rfl, hc, hC⟩ := slice_open ((Kd.slice t d).K_of_M HM.out)
    obtain rfl := er_open_none (erK.K_of_M HE.out)
    exact k A c W' hc (M_cap HM.out) ⟨hC⟩ HM HB HS'
theorem g3_ {α β γ : Type} {d1 : Kd α} {d2 : Kd β} {d3 : Kd γ} {x : α} {y : β} {z : γ} (H : Calls P f args W (Gives3 d1 d2 d3 x y z W)) (HS : Kp (St w0 W))
    (k : ∀ v1 v2 v3 W', Kp (d1.M W' W.heap.size (fun _ => True) x [v1]) → Kp (d2.M W' W.heap.size (fun _ => True) y [v2]) → Kp (d3.M W' W.heap.size (fun _ => True) z [v3]) → Kp (Below W.heap.size W W') → Kp (St w0 W') → Q (.returned (.tuple #[v1, v2, v3])) W') : Calls P f args W Q :=
  H.mono fun e w' ⟨v1, v2, v3, he, h1, h2, h3, hb⟩ => by subst he; exact k v1 v2 v3 w' ⟨h1⟩ ⟨h2⟩ ⟨h3⟩ ⟨hb⟩ ⟨HS.out.step hb⟩
/-- A text, a number, an error (in the form that it has). -/
theorem gsie_ {x : ByteArray} {y : Int} {z : Er} (H : Calls P f args W (Gives3 Kd.string (Kd.int .i64) erK x y z W)) (HS : Kp (St w0 W))
    (k : ∀ v W', Kp (erK.M W' W.heap.size (fun _ => True) z [v]) → Kp (Below W.heap.size W W') → Kp (St w0 W') → Q (.returned (.tuple #[.string x, .int .i64 y, v])) W') : Calls P f args W Q :=
  g3_ H HS fun v1 v2 v3 W' H1 H2 H3 HB HS' => by
    obtain rfl : v1 = .string x := List.singleton_inj.1 H1.out
    obtain rfl : v2 = .int .i64 y := List.singleton_inj.1 H2.out
    exact k v3 W' H3 HB HS'
end
/-- A callee that only computes, in a region that draws its order. -/
theorem quiet_l {P : Program} {f : FuncId} {args : Array Value} {w : World} {n : Nat} {v : Value} (h : Calls P f args (w.drewN n) fun e w' => e = .returned v ∧ w.drewN n = w') : Calls P f args (w.drewN n) fun e w'' => e = .returned v ∧ ∃ m, w'' = w.drewN m :=
  h.mono fun _ _ ⟨he, hm⟩ => ⟨he, n, hm.symm⟩
theorem dec_or (p : Prop) [Decidable p] : (p ∧ decide p = true) ∨ (¬ p ∧ decide p = false) := by
  by_cases h : p
  · exact .inl ⟨h, by simpa using h⟩
  · exact .inr ⟨h, by simpa using h⟩
end Go.Proofs.YtimaliamidgflaaGreatDoor
