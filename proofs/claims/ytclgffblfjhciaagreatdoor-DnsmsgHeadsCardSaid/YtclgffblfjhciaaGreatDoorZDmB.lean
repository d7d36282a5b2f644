/-
  Package dnsmsg: body: all that stands behind a message's head, by its contract.
-/
import Derived.Test.YtclgffblfjhciaaGreatDoorZDmA
namespace Go.Proofs.YtclgffblfjhciaaGreatDoor
open Go.RowKit Go.Proofs.YtclgffblfjhciaaGreatDoorW.PrintWords
set_option linter.unusedVariables false
set_option linter.unusedSimpArgs false
set_option maxRecDepth 100000
set_option maxHeartbeats 4000000

/-- A message. -/
structure Msg where
  id : Int
  rp : Bool
  op : Int
  co : Int
  fl : Int
  qs : List Qu
  an : List Rec
  au : List Rec
  ex : List Rec
abbrev Bod := List Qu × List Rec × List Rec × List Rec
def bodyR3 (xs : List Int) (ql : List Qu) (l1 l2 : List Rec) (n : Nat) (a : Int) : Bod × Int × Er :=
  if (rsR xs n a []).2.2 ≠ .none then (([], [], [], []), 0, (rsR xs n a []).2.2) else ((ql, l1, l2, (rsR xs n a []).1), (rsR xs n a []).2.1, .none)
def bodyR2 (xs : List Int) (ql : List Qu) (l1 : List Rec) (n n3 : Nat) (a : Int) : Bod × Int × Er :=
  if (rsR xs n a []).2.2 ≠ .none then (([], [], [], []), 0, (rsR xs n a []).2.2) else bodyR3 xs ql l1 (rsR xs n a []).1 n3 (rsR xs n a []).2.1
def bodyR1 (xs : List Int) (ql : List Qu) (n n2 n3 : Nat) (a : Int) : Bod × Int × Er :=
  if (rsR xs n a []).2.2 ≠ .none then (([], [], [], []), 0, (rsR xs n a []).2.2) else bodyR2 xs ql (rsR xs n a []).1 n2 n3 (rsR xs n a []).2.1
/-- What stands behind a message's head. -/
def bodyR (xs : List Int) (n0 n1 n2 n3 : Nat) : Bod × Int × Er :=
  if (qsR xs n0 12 []).2.2 ≠ .none then (([], [], [], []), 0, (qsR xs n0 12 []).2.2) else bodyR1 xs (qsR xs n0 12 []).1 n1 n2 n3 (qsR xs n0 12 []).2.1
/-- .. from a round on. -/
def bodyK (xs : List Int) (n1 n2 n3 : Nat) (ql : List Qu) (l1 l2 l3 : List Rec) (a : Int) : Nat → Bod × Int × Er
  | 0 => bodyR1 xs ql n1 n2 n3 a
  | 1 => bodyR2 xs ql l1 n2 n3 a
  | 2 => bodyR3 xs ql l1 l2 n3 a
  | _ => ((ql, l1, l2, l3), a, .none)
theorem rsR_end (xs : List Int) (hx : Byts xs) : ∀ (n : Nat) (a : Int) (l : List Rec), 0 ≤ a → a ≤ xs.length → 0 ≤ (rsR xs n a l).2.1 ∧ (rsR xs n a l).2.1 ≤ xs.length
  | 0, a, l, h0, h1 => ⟨h0, h1⟩
  | n + 1, a, l, h0, h1 => by
    have := recR_end xs a hx
    rw [rsR]
    split
    · exact ⟨Int.le_refl _, by simp⟩
    · exact rsR_end xs hx n _ _ this.1 this.2
theorem qsR_end (xs : List Int) (hx : Byts xs) : ∀ (n : Nat) (a : Int) (l : List Qu), 0 ≤ a → a ≤ xs.length → 0 ≤ (qsR xs n a l).2.1 ∧ (qsR xs n a l).2.1 ≤ xs.length
  | 0, a, l, h0, h1 => ⟨h0, h1⟩
  | n + 1, a, l, h0, h1 => by
    have := quR_end xs a hx
    rw [qsR]
    split
    · exact ⟨Int.le_refl _, by simp⟩
    · exact qsR_end xs hx n _ _ this.1 this.2
structure BodyW (w0 w wr : World) (g : Nat) (n0 n1 n2 n3 : Nat) (id : Int) (rp : Bool) (op co fl : Int) (v5 u6 u7 u8 : Value) (ql : List Qu) (l1 l2 l3 : List Rec) : Prop where
  blk : wr.heap[g]? = some (.cells #[.int .i64 id, .bool rp, .int .i64 op, .int .i64 co, .int .i64 fl, v5, u6, u7, u8] 71 (0, 0))
  box : wr.heap[w.heap.size]? = some (.cells #[.int .i64 n0, .int .i64 n1, .int .i64 n2, .int .i64 n3] 130 (0, 0))
  r5 : quK.R 54 wr w0.heap.size (fun k => k ≠ g) v5 ql
  r6 : recK.R 37 wr w0.heap.size (fun k => k ≠ g) u6 l1
  r7 : recK.R 37 wr w0.heap.size (fun k => k ≠ g) u7 l2
  r8 : recK.R 37 wr w0.heap.size (fun k => k ≠ g) u8 l3
  st : St w0 wr
  env0 : Env w0
  sz : w.heap.size < wr.heap.size
  oth : ∀ k, k < w.heap.size → k ≠ g → wr.heap[k]? = w.heap[k]?
theorem BodyW.step {w0 w wr w2 : World} {g n0 n1 n2 n3 : Nat} {id : Int} {rp : Bool} {op co fl : Int} {v5 u6 u7 u8 : Value} {ql : List Qu} {l1 l2 l3 : List Rec} (h : BodyW w0 w wr g n0 n1 n2 n3 id rp op co fl v5 u6 u7 u8 ql l1 l2 l3) (hb : Below wr.heap.size wr w2) :
    BodyW w0 w w2 g n0 n1 n2 n3 id rp op co fl v5 u6 u7 u8 ql l1 l2 l3 :=
  ⟨(hb.block _ (heap_lt h.blk)).trans h.blk, (hb.block _ (heap_lt h.box)).trans h.box, Kd.R_below h.r5 hb, Kd.R_below h.r6 hb, Kd.R_below h.r7 hb, Kd.R_below h.r8 hb, h.st.step hb, h.env0, by have := hb.size; have := h.sz; omega,
    fun k hk hg => (hb.block k (by have := h.sz; omega)).trans (h.oth k hk hg)⟩
/-- A row of the callee's own, apart from an elder block. -/
theorem R_apart {α : Type} {d : Kd α} {e : Nat} {w : World} {b b0 g : Nat} {v : Value} {xs : List α} (h : d.R e w b (fun _ => True) v xs) (hb : b0 ≤ b) (hg : g < b) : d.R e w b0 (fun k => k ≠ g) v xs :=
  Kd.R_lower (Kd.R_mono (Kd.R_bound h) (fun k hk => by have := hk.2.1; omega)) hb
theorem slice_M {α : Type} {d : Kd α} {t : Nat} {w : World} {b : Nat} {ok : Nat → Prop} {xs : List α} {v : Value} (h : (Kd.slice t d).M w b ok xs [v]) : d.R t w b ok v xs := by
  obtain ⟨u, hu, hR⟩ := h
  obtain rfl := List.singleton_inj.1 hu
  exact hR

theorem BodyW.put6 {w0 w wr : World} {g n0 n1 n2 n3 : Nat} {id : Int} {rp : Bool} {op co fl : Int} {v5 u6 u7 u8 : Value} {ql : List Qu} {l1 l2 l3 : List Rec} (h : BodyW w0 w wr g n0 n1 n2 n3 id rp op co fl v5 u6 u7 u8 ql l1 l2 l3) {x : Value} {y : List Rec} (hx : recK.R 37 wr w0.heap.size (fun k => k ≠ g) x y) (hg : w0.heap.size ≤ g) (hgw : g < w.heap.size) :
    BodyW w0 w (wr.setCell ⟨g, 6, none⟩ x) g n0 n1 n2 n3 id rp op co fl v5 x u7 u8 ql y l2 l3 :=
  ⟨blk_put h.blk 6 x rfl, (Below.heap_setCell wr ⟨g, 6, none⟩ x w.heap.size (by show w.heap.size ≠ g; omega)).trans h.box, Kd.R_far (p := ⟨g, 6, none⟩) h.r5 (fun k hk => hk) _, Kd.R_far (p := ⟨g, 6, none⟩) hx (fun k hk => hk) _, Kd.R_far (p := ⟨g, 6, none⟩) h.r7 (fun k hk => hk) _, Kd.R_far (p := ⟨g, 6, none⟩) h.r8 (fun k hk => hk) _,
    ⟨h.st.below.setCell (p := ⟨g, 6, none⟩) hg x, h.env0.below (h.st.below.setCell (p := ⟨g, 6, none⟩) hg x)⟩, h.env0, by have := h.sz; simpa using this, fun k hk hkg => (Below.heap_setCell wr ⟨g, 6, none⟩ x k hkg).trans (h.oth k hk hkg)⟩

theorem BodyW.put7 {w0 w wr : World} {g n0 n1 n2 n3 : Nat} {id : Int} {rp : Bool} {op co fl : Int} {v5 u6 u7 u8 : Value} {ql : List Qu} {l1 l2 l3 : List Rec} (h : BodyW w0 w wr g n0 n1 n2 n3 id rp op co fl v5 u6 u7 u8 ql l1 l2 l3) {x : Value} {y : List Rec} (hx : recK.R 37 wr w0.heap.size (fun k => k ≠ g) x y) (hg : w0.heap.size ≤ g) (hgw : g < w.heap.size) :
    BodyW w0 w (wr.setCell ⟨g, 7, none⟩ x) g n0 n1 n2 n3 id rp op co fl v5 u6 x u8 ql l1 y l3 :=
  ⟨blk_put h.blk 7 x rfl, (Below.heap_setCell wr ⟨g, 7, none⟩ x w.heap.size (by show w.heap.size ≠ g; omega)).trans h.box, Kd.R_far (p := ⟨g, 7, none⟩) h.r5 (fun k hk => hk) _, Kd.R_far (p := ⟨g, 7, none⟩) h.r6 (fun k hk => hk) _, Kd.R_far (p := ⟨g, 7, none⟩) hx (fun k hk => hk) _, Kd.R_far (p := ⟨g, 7, none⟩) h.r8 (fun k hk => hk) _,
    ⟨h.st.below.setCell (p := ⟨g, 7, none⟩) hg x, h.env0.below (h.st.below.setCell (p := ⟨g, 7, none⟩) hg x)⟩, h.env0, by have := h.sz; simpa using this, fun k hk hkg => (Below.heap_setCell wr ⟨g, 7, none⟩ x k hkg).trans (h.oth k hk hkg)⟩

theorem BodyW.put8 {w0 w wr : World} {g n0 n1 n2 n3 : Nat} {id : Int} {rp : Bool} {op co fl : Int} {v5 u6 u7 u8 : Value} {ql : List Qu} {l1 l2 l3 : List Rec} (h : BodyW w0 w wr g n0 n1 n2 n3 id rp op co fl v5 u6 u7 u8 ql l1 l2 l3) {x : Value} {y : List Rec} (hx : recK.R 37 wr w0.heap.size (fun k => k ≠ g) x y) (hg : w0.heap.size ≤ g) (hgw : g < w.heap.size) :
    BodyW w0 w (wr.setCell ⟨g, 8, none⟩ x) g n0 n1 n2 n3 id rp op co fl v5 u6 u7 x ql l1 l2 y :=
  ⟨blk_put h.blk 8 x rfl, (Below.heap_setCell wr ⟨g, 8, none⟩ x w.heap.size (by show w.heap.size ≠ g; omega)).trans h.box, Kd.R_far (p := ⟨g, 8, none⟩) h.r5 (fun k hk => hk) _, Kd.R_far (p := ⟨g, 8, none⟩) h.r6 (fun k hk => hk) _, Kd.R_far (p := ⟨g, 8, none⟩) h.r7 (fun k hk => hk) _, Kd.R_far (p := ⟨g, 8, none⟩) hx (fun k hk => hk) _,
    ⟨h.st.below.setCell (p := ⟨g, 8, none⟩) hg x, h.env0.below (h.st.below.setCell (p := ⟨g, 8, none⟩) hg x)⟩, h.env0, by have := h.sz; simpa using this, fun k hk hkg => (Below.heap_setCell wr ⟨g, 8, none⟩ x k hkg).trans (h.oth k hk hkg)⟩

theorem run_index_ptr (g : Nat) (w : World) :
    (Instr.index 175 (.agg #[.pointer (some ⟨g, 6, none⟩), .pointer (some ⟨g, 7, none⟩), .pointer (some ⟨g, 8, none⟩)]) (.int .i64 0)).run Tryz.prog w = .ok (.pointer (some ⟨g, 6, none⟩)) w
    ∧ (Instr.index 175 (.agg #[.pointer (some ⟨g, 6, none⟩), .pointer (some ⟨g, 7, none⟩), .pointer (some ⟨g, 8, none⟩)]) (.int .i64 1)).run Tryz.prog w = .ok (.pointer (some ⟨g, 7, none⟩)) w
    ∧ (Instr.index 175 (.agg #[.pointer (some ⟨g, 6, none⟩), .pointer (some ⟨g, 7, none⟩), .pointer (some ⟨g, 8, none⟩)]) (.int .i64 2)).run Tryz.prog w = .ok (.pointer (some ⟨g, 8, none⟩)) w := by
  refine ⟨?_, ?_, ?_⟩ <;> simp [Instr.index, run_underlying Tryz.underlying175, asIntOf, go_sem]
def BodyPost (w0 w : World) (g : Nat) (id : Int) (rp : Bool) (op co fl : Int) (bd : Bod) (a : Int) (er : Er) (e : Ending) (w' : World) : Prop :=
  (∃ v, e = .returned (.tuple #[.int .i64 a, v]) ∧ erK.M w' w0.heap.size (fun k => k ≠ g) er [v]) ∧ St w0 w' ∧ w.heap.size ≤ w'.heap.size ∧ (∀ k, k < w.heap.size → k ≠ g → w'.heap[k]? = w.heap[k]?)
    ∧ (er = .none → ∃ v5 v6 v7 v8, w'.heap[g]? = some (.cells #[.int .i64 id, .bool rp, .int .i64 op, .int .i64 co, .int .i64 fl, v5, v6, v7, v8] 71 (0, 0)) ∧ quK.R 54 w' w0.heap.size (fun k => k ≠ g) v5 bd.1 ∧ recK.R 37 w' w0.heap.size (fun k => k ≠ g) v6 bd.2.1 ∧ recK.R 37 w' w0.heap.size (fun k => k ≠ g) v7 bd.2.2.1 ∧ recK.R 37 w' w0.heap.size (fun k => k ≠ g) v8 bd.2.2.2)
theorem erM_apart {w : World} {b b0 g : Nat} {x : Er} {v : Value} (h : erK.M w b (fun _ => True) x [v]) (hb : b0 ≤ b) (hg : g < b) : erK.M w b0 (fun k => k ≠ g) x [v] :=
  erK.M_lower hb (erK.M_mono (fun k hk => by have := hk.2.1; omega) (erK.M_bound h))

theorem body_calls (A : Option Addr) (c : Nat) (xs : List Int) (g n0 n1 n2 n3 : Nat) (id : Int) (rp : Bool) (op co fl : Int) (w0 w : World) (bd : Bod) (a : Int) (er : Er) (h : (Kd.int .u8).C w0 A xs.length xs) (hx8 : Byts xs) (hc : xs.length ≤ c) (hcm : c ≤ 9223372036854775807) (hS : St w0 w) (hE0 : Env w0) (hl : xs.length ≤ 140737488355328) (h12 : 12 ≤ xs.length)
    (hg0 : w0.heap.size ≤ g) (hg : w.heap[g]? = some (.cells #[.int .i64 id, .bool rp, .int .i64 op, .int .i64 co, .int .i64 fl, .slice none 0 0, .slice none 0 0, .slice none 0 0, .slice none 0 0] 71 (0, 0)))
    (hn0 : n0 ≤ 1000000) (hn1 : n1 ≤ 1000000) (hn2 : n2 ≤ 1000000) (hn3 : n3 ≤ 1000000) (hr : bodyR xs n0 n1 n2 n3 = (bd, a, er)) :
    Calls Tryz.prog 73 #[.pointer (some ⟨g, 0, none⟩), .slice A xs.length c, .agg #[.int .i64 n0, .int .i64 n1, .int .i64 n2, .int .i64 n3]] w (BodyPost w0 w g id rp op co fl bd a er) := by
  have hgl := heap_lt hg
  have HS := Kp.mk (hS.alloc (.cells #[.int .i64 n0, .int .i64 n1, .int .i64 n2, .int .i64 n3] 130))
  have Hb0 := Kp.mk (heap_new w (.cells #[.int .i64 n0, .int .i64 n1, .int .i64 n2, .int .i64 n3] 130))
  have Hg0 := Kp.mk ((((Below.refl w.heap.size w).alloc (Nat.le_refl _) (.cells #[.int .i64 n0, .int .i64 n1, .int .i64 n2, .int .i64 n3] 130)).block _ hgl).trans hg)
  have hz1 : (w.alloc (.cells #[.int .i64 n0, .int .i64 n1, .int .i64 n2, .int .i64 n3] 130)).heap.size = w.heap.size + 1 := by simp
  have HO0 := Kp.mk (fun k (hk : k < w.heap.size) => ((Below.refl w.heap.size w).alloc (Nat.le_refl _) (.cells #[.int .i64 n0, .int .i64 n1, .int .i64 n2, .int .i64 n3] 130)).block k hk)
  have HC := Kp.mk h
  have HX := Kp.mk hx8
  have HE0 := Kp.mk hE0
  obtain ⟨ql, qa, qe, hq⟩ : ∃ ql qa qe, qsR xs n0 12 [] = (ql, qa, qe) := ⟨_, _, _, rfl⟩
  have hqe := qsR_end xs hx8 n0 12 [] (by decide) (by omega)
  rw [bodyR, hq] at hr
  rw [hq] at hqe
  dsimp only at hr hqe
  have HQ := Kp.mk hq
  have HR := Kp.mk hr
  have HZ1 := Kp.mk hz1
  have c0 := blk_cell Hb0.out 0
  clear h hx8 hS hg hq hr hz1
  go_enter Tryz.func73, Tryz.ntmps73
  go_wp2_with (fail)
  refine g3_ (questions_calls A c xs 12 n0 _ ql qa qe (Kd.C_below HC.out HS.out.below) HX.out hc hcm HS.out.env hl (by decide) (by decide) hn0 HQ.out) HS ?_
  intro v1 v2 v3 w1 HM1 HM2 HM3 HB1 HS1
  obtain rfl : v2 = .int .i64 qa := List.singleton_inj.1 HM2.out
  obtain ⟨A1, c1, rfl⟩ := Kd.R_slice (slice_M HM1.out)
  have HR1 := Kp.mk (R_apart (b0 := w0.heap.size) (g := g) (slice_M HM1.out) HS.out.size (by rw [HZ1.out]; omega))
  have HE1 := Kp.mk (erM_apart (b0 := w0.heap.size) (g := g) HM3.out HS.out.size (by rw [HZ1.out]; omega))
  have Hb1 := Kp.mk ((HB1.out.block _ (heap_lt Hb0.out)).trans Hb0.out)
  have Hg1 := Kp.mk ((HB1.out.block _ (heap_lt Hg0.out)).trans Hg0.out)
  have HO1 := Kp.mk (fun k (hk : k < w.heap.size) => (HB1.out.block k (by rw [HZ1.out]; omega)).trans (HO0.out k hk))
  have hs1 : w.heap.size < w1.heap.size := heap_lt Hb1.out
  clear HM1 HM2 HB1 Hb0 Hg0 HO0 c0
  by_cases g1 : qe = .none
  case neg =>
    obtain ⟨T, u, rfl⟩ := er_some (erK.K_of_M HM3.out) g1
    have hr := HR.out
    rw [if_pos g1] at hr
    obtain ⟨rfl, rfl, rfl⟩ : (([], [], [], []) : Bod) = bd ∧ (0 : Int) = a ∧ qe = er := by simpa using hr
    clear hr HR
    go_wp2
    go_ret2
    exact ⟨⟨_, rfl, HE1.out⟩, HS1.out, Nat.le_of_lt hs1, fun k hk _ => HO1.out k hk, fun h => absurd h g1⟩
  subst g1
  obtain rfl := er_open_none (erK.K_of_M HM3.out)
  have hr := HR.out
  rw [if_neg (by simp)] at hr
  have HR2 := Kp.mk hr
  clear hr HR HM3 HE1
  have d5 := blk_cell Hg1.out 5
  have f5 := blk_frozen Hg1.out 5
  have HW0 : Kp (BodyW w0 w (w1.setCell ⟨g, 5, none⟩ (.slice A1 ql.length c1)) g n0 n1 n2 n3 id rp op co fl (.slice A1 ql.length c1) (.slice none 0 0) (.slice none 0 0) (.slice none 0 0) ql [] [] []) := ⟨
    blk_put Hg1.out 5 (.slice A1 ql.length c1) rfl, (Below.heap_setCell w1 ⟨g, 5, none⟩ (.slice A1 ql.length c1) w.heap.size (by show w.heap.size ≠ g; omega)).trans Hb1.out, Kd.R_far (p := ⟨g, 5, none⟩) HR1.out (fun k hk => hk) _, Kd.R_nil _ _ _ _ _, Kd.R_nil _ _ _ _ _, Kd.R_nil _ _ _ _ _,
    ⟨HS1.out.below.setCell (p := ⟨g, 5, none⟩) hg0 (.slice A1 ql.length c1), HE0.out.below (HS1.out.below.setCell (p := ⟨g, 5, none⟩) hg0 (.slice A1 ql.length c1))⟩, HE0.out, by simpa using hs1, fun k hk hkg => (Below.heap_setCell w1 ⟨g, 5, none⟩ (.slice A1 ql.length c1) k hkg).trans (HO1.out k hk)⟩
  clear Hb1 HR1 HO1
  go_wp2_with (fail)
  go_quiet (skip)
  have HW1 := Kp.mk (HW0.out.step (pw_below_drewN (Below.refl _ _) nq))
  clear HW0 d5 f5 Hg1 HS1
  generalize (w1.setCell ⟨g, 5, none⟩ (.slice A1 ql.length c1)).drewN nq = W1 at HW1 ⊢
  go_wp2_with (fail)
  go_loopw [9, 38] (fun at_ i wr => ∃ (k : Nat) (a1 : Int) (u6 u7 u8 : Value) (l1 l2 l3 : List Rec), k ≤ 3 ∧ i = .int .i64 k ∧ at_ = .int .i64 a1 ∧ Kp (BodyW w0 w wr g n0 n1 n2 n3 id rp op co fl (.slice A1 ql.length c1) u6 u7 u8 ql l1 l2 l3) ∧ Kp (bodyK xs n1 n2 n3 ql l1 l2 l3 a1 k = (bd, a, er)) ∧ 0 ≤ a1 ∧ a1 ≤ xs.length) (fun _ i _ => 3 - (intOf i).toNat)
  case atStart => exact ⟨0, qa, _, _, _, [], [], [], by decide, rfl, rfl, HW1, HR2, hqe.1, hqe.2⟩
  case round =>
    obtain ⟨k, a1, u6, u7, u8, l1, l2, l3, hk, rfl, rfl, HWr, HQ, ha0, ha1⟩ := hrel
    have hsr := HWr.out.sz
    match k, hk with
    | 3, _ =>
      have hq := HQ.out
      obtain ⟨rfl, rfl, rfl⟩ : ((ql, l1, l2, l3) : Bod) = bd ∧ a1 = a ∧ Er.none = er := by simpa [bodyK] using hq
      clear hq HQ HR2
      go_wp2
      go_ret2
      exact ⟨⟨_, rfl, er_none _ _ _⟩, HWr.out.st, Nat.le_of_lt hsr, HWr.out.oth, fun _ => ⟨_, _, _, _, HWr.out.blk, HWr.out.r5, HWr.out.r6, HWr.out.r7, HWr.out.r8⟩⟩
    | 0, _ =>
      obtain ⟨rl, ra, re, hrs⟩ : ∃ rl ra re, rsR xs n1 a1 [] = (rl, ra, re) := ⟨_, _, _, rfl⟩
      have hend := rsR_end xs HX.out n1 a1 [] ha0 ha1
      have hq : bodyR1 xs ql  n1 n2 n3 a1 = (bd, a, er) := HQ.out
      rw [bodyR1, hrs] at hq
      rw [hrs] at hend
      dsimp only at hq hend
      have HQ1 := Kp.mk hq
      have HRS := Kp.mk hrs
      have hcb := blk_cell HWr.out.box 1
      have hix := (run_index_ptr g wr).1
      clear hq hrs HQ HR2
      go_wp2_with (fail)
      refine g3_ (records_calls A c xs a1 n1 _ rl ra re (Kd.C_below HC.out HWr.out.st.below) HX.out hc hcm HWr.out.st.env hl ha0 (by omega) hn1 HRS.out) ⟨HWr.out.st⟩ ?_
      intro v4 v5 v6 w4 HM4 HM5 HM6 HB4 HS4
      obtain rfl : v5 = .int .i64 ra := List.singleton_inj.1 HM5.out
      obtain ⟨A4, c4, rfl⟩ := Kd.R_slice (slice_M HM4.out)
      have HR4 := Kp.mk (R_apart (b0 := w0.heap.size) (g := g) (slice_M HM4.out) HWr.out.st.size (by omega))
      have HE4 := Kp.mk (erM_apart (b0 := w0.heap.size) (g := g) HM6.out HWr.out.st.size (by omega))
      have HW4 := Kp.mk (HWr.out.step HB4.out)
      have HW5 := Kp.mk (HW4.out.put6 HR4.out hg0 hgl)
      have d6 := blk_cell HW4.out.blk 6
      have f6 := blk_frozen HW4.out.blk 6
      clear HM4 HM5 HB4 hcb hix
      by_cases g4 : re = .none
      case neg =>
        obtain ⟨T, u, rfl⟩ := er_some (erK.K_of_M HM6.out) g4
        have hq := HQ1.out
        rw [if_pos g4] at hq
        obtain ⟨rfl, rfl, rfl⟩ : (([], [], [], []) : Bod) = bd ∧ (0 : Int) = a ∧ re = er := by simpa using hq
        clear hq HQ1 HM6
        have HE5 := Kp.mk (erK.M_far (p := ⟨g, 6, none⟩) HE4.out (fun k hk => hk) (.slice A4 rl.length c4))
        go_wp2
        go_ret2
        exact ⟨⟨_, rfl, HE5.out⟩, HW5.out.st, Nat.le_of_lt HW5.out.sz, HW5.out.oth, fun h => absurd h g4⟩
      subst g4
      obtain rfl := er_open_none (erK.K_of_M HM6.out)
      have hq := HQ1.out
      rw [if_neg (by simp)] at hq
      have HQ2 : Kp (bodyK xs n1 n2 n3 ql rl l2 l3 ra 1 = (bd, a, er)) := ⟨hq⟩
      clear hq HQ1 HM6 HE4
      go_wp2
      exact ⟨⟨1, ra, _, u7, u8, rl, l2, l3, by decide, by go_num, rfl, HW5, HQ2, hend.1, hend.2⟩, by simp [intOf]⟩
    | 1, _ =>
      obtain ⟨rl, ra, re, hrs⟩ : ∃ rl ra re, rsR xs n2 a1 [] = (rl, ra, re) := ⟨_, _, _, rfl⟩
      have hend := rsR_end xs HX.out n2 a1 [] ha0 ha1
      have hq : bodyR2 xs ql l1 n2 n3 a1 = (bd, a, er) := HQ.out
      rw [bodyR2, hrs] at hq
      rw [hrs] at hend
      dsimp only at hq hend
      have HQ1 := Kp.mk hq
      have HRS := Kp.mk hrs
      have hcb := blk_cell HWr.out.box 2
      have hix := (run_index_ptr g wr).2.1
      clear hq hrs HQ HR2
      go_wp2_with (fail)
      refine g3_ (records_calls A c xs a1 n2 _ rl ra re (Kd.C_below HC.out HWr.out.st.below) HX.out hc hcm HWr.out.st.env hl ha0 (by omega) hn2 HRS.out) ⟨HWr.out.st⟩ ?_
      intro v4 v5 v6 w4 HM4 HM5 HM6 HB4 HS4
      obtain rfl : v5 = .int .i64 ra := List.singleton_inj.1 HM5.out
      obtain ⟨A4, c4, rfl⟩ := Kd.R_slice (slice_M HM4.out)
      have HR4 := Kp.mk (R_apart (b0 := w0.heap.size) (g := g) (slice_M HM4.out) HWr.out.st.size (by omega))
      have HE4 := Kp.mk (erM_apart (b0 := w0.heap.size) (g := g) HM6.out HWr.out.st.size (by omega))
      have HW4 := Kp.mk (HWr.out.step HB4.out)
      have HW5 := Kp.mk (HW4.out.put7 HR4.out hg0 hgl)
      have d6 := blk_cell HW4.out.blk 7
      have f6 := blk_frozen HW4.out.blk 7
      clear HM4 HM5 HB4 hcb hix
      by_cases g4 : re = .none
      case neg =>
        obtain ⟨T, u, rfl⟩ := er_some (erK.K_of_M HM6.out) g4
        have hq := HQ1.out
        rw [if_pos g4] at hq
        obtain ⟨rfl, rfl, rfl⟩ : (([], [], [], []) : Bod) = bd ∧ (0 : Int) = a ∧ re = er := by simpa using hq
        clear hq HQ1 HM6
        have HE5 := Kp.mk (erK.M_far (p := ⟨g, 7, none⟩) HE4.out (fun k hk => hk) (.slice A4 rl.length c4))
        go_wp2
        go_ret2
        exact ⟨⟨_, rfl, HE5.out⟩, HW5.out.st, Nat.le_of_lt HW5.out.sz, HW5.out.oth, fun h => absurd h g4⟩
      subst g4
      obtain rfl := er_open_none (erK.K_of_M HM6.out)
      have hq := HQ1.out
      rw [if_neg (by simp)] at hq
      have HQ2 : Kp (bodyK xs n1 n2 n3 ql l1 rl l3 ra 2 = (bd, a, er)) := ⟨hq⟩
      clear hq HQ1 HM6 HE4
      go_wp2
      exact ⟨⟨2, ra, u6, _, u8, l1, rl, l3, by decide, by go_num, rfl, HW5, HQ2, hend.1, hend.2⟩, by simp [intOf]⟩
    | 2, _ =>
      obtain ⟨rl, ra, re, hrs⟩ : ∃ rl ra re, rsR xs n3 a1 [] = (rl, ra, re) := ⟨_, _, _, rfl⟩
      have hend := rsR_end xs HX.out n3 a1 [] ha0 ha1
      have hq : bodyR3 xs ql l1 l2 n3 a1 = (bd, a, er) := HQ.out
      rw [bodyR3, hrs] at hq
      rw [hrs] at hend
      dsimp only at hq hend
      have HQ1 := Kp.mk hq
      have HRS := Kp.mk hrs
      have hcb := blk_cell HWr.out.box 3
      have hix := (run_index_ptr g wr).2.2
      clear hq hrs HQ HR2
      go_wp2_with (fail)
      refine g3_ (records_calls A c xs a1 n3 _ rl ra re (Kd.C_below HC.out HWr.out.st.below) HX.out hc hcm HWr.out.st.env hl ha0 (by omega) hn3 HRS.out) ⟨HWr.out.st⟩ ?_
      intro v4 v5 v6 w4 HM4 HM5 HM6 HB4 HS4
      obtain rfl : v5 = .int .i64 ra := List.singleton_inj.1 HM5.out
      obtain ⟨A4, c4, rfl⟩ := Kd.R_slice (slice_M HM4.out)
      have HR4 := Kp.mk (R_apart (b0 := w0.heap.size) (g := g) (slice_M HM4.out) HWr.out.st.size (by omega))
      have HE4 := Kp.mk (erM_apart (b0 := w0.heap.size) (g := g) HM6.out HWr.out.st.size (by omega))
      have HW4 := Kp.mk (HWr.out.step HB4.out)
      have HW5 := Kp.mk (HW4.out.put8 HR4.out hg0 hgl)
      have d6 := blk_cell HW4.out.blk 8
      have f6 := blk_frozen HW4.out.blk 8
      clear HM4 HM5 HB4 hcb hix
      by_cases g4 : re = .none
      case neg =>
        obtain ⟨T, u, rfl⟩ := er_some (erK.K_of_M HM6.out) g4
        have hq := HQ1.out
        rw [if_pos g4] at hq
        obtain ⟨rfl, rfl, rfl⟩ : (([], [], [], []) : Bod) = bd ∧ (0 : Int) = a ∧ re = er := by simpa using hq
        clear hq HQ1 HM6
        have HE5 := Kp.mk (erK.M_far (p := ⟨g, 8, none⟩) HE4.out (fun k hk => hk) (.slice A4 rl.length c4))
        go_wp2
        go_ret2
        exact ⟨⟨_, rfl, HE5.out⟩, HW5.out.st, Nat.le_of_lt HW5.out.sz, HW5.out.oth, fun h => absurd h g4⟩
      subst g4
      obtain rfl := er_open_none (erK.K_of_M HM6.out)
      have hq := HQ1.out
      rw [if_neg (by simp)] at hq
      have HQ2 : Kp (bodyK xs n1 n2 n3 ql l1 l2 rl ra 3 = (bd, a, er)) := ⟨hq⟩
      clear hq HQ1 HM6 HE4
      go_wp2
      exact ⟨⟨3, ra, u6, u7, _, l1, l2, rl, by decide, by go_num, rfl, HW5, HQ2, hend.1, hend.2⟩, by simp [intOf]⟩
end Go.Proofs.YtclgffblfjhciaaGreatDoor

