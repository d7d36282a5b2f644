/-
  The law DnsmsgRefuses: what may not be written is refused; too long is too big: the walk.
-/
import Derived.Test.YtlkneoednkhleaaGreatDoorGv
import Derived.Test.YtlkneoednkhleaaGreatDoorZDrA
import Derived.Test.YtlkneoednkhleaaGreatDoorGu
import Derived.Test.YtlkneoednkhleaaGreatDoorGs
import Derived.Test.YtlkneoednkhleaaGreatDoorSame
import Derived.Test.YtlkneoednkhleaaGreatDoorGt
namespace Go.Proofs.YtlkneoednkhleaaGreatDoor
open Go.RowKit Go.Proofs.YtlkneoednkhleaaGreatDoorW.PrintWords Go.Proofs.YtlkneoednkhleaaGreatDoorW.PrintLast
set_option linter.unusedVariables false
set_option linter.unusedSimpArgs false
set_option maxRecDepth 100000
set_option maxHeartbeats 4000000

theorem umod_rawD (a : Int) (k : Int) (hk : 0 < k) : ∃ N : Nat, (N : Int) < k ∧ (IntKind.u64.wrap a).tmod k = (N : Int) := by
  have h0 : 0 ≤ IntKind.u64.wrap a := by rw [IntKind.wrap_u64]; omega
  rw [Int.tmod_eq_emod_of_nonneg h0]
  obtain ⟨N, hN⟩ := Int.eq_ofNat_of_zero_le (Int.emod_nonneg (IntKind.u64.wrap a) (by omega : k ≠ 0))
  exact ⟨N, by have := Int.emod_lt_of_pos (IntKind.u64.wrap a) hk; omega, hN⟩
theorem bareD_calls (c : Int) (w : World) : Calls Tryz.prog 39 #[.int .i64 c] w fun e w' => e = .returned (failV (.code c)) ∧ Below w.heap.size w w' := by
  go_enter Tryz.func39, Tryz.ntmps39
  go_wp2
  go_returns
  exact ⟨rfl, (Below.refl _ _).alloc (Nat.le_refl _) _⟩
section
variable {ops : Array Oper} {rest : List Oper} {o : Oper} {a : Act} {Q : Exit → Act → World → Prop} {w0 W : World} {base : Nat} {v : Value} {s x : Operand}
/-- One record without data behind some. -/
theorem app_rec0 (hgd : o.guard = none) (ho : o.op = .call { callee := .builtin .append, args := #[s, x], argTypes := #[57, 57] })
    (xs : List Rec) (p : Rec) (hp : p.data = []) (hs : a.eval s = v) (hx : a.eval x = .slice (some ⟨W.heap.size, 0, none⟩) 1 1) (HO : recK.R 28 W base (fun _ => True) v xs) (HB : Below base w0 W) (hbase : base ≤ W.heap.size) (hl : (xs.length + 1) * 96 ≤ 140737488355328)
    (h : ∀ v1 w1, Kp (recK.R 28 w1 base (fun _ => True) v1 (xs ++ [p])) → Kp (Below base w0 w1) → Kp (W.grownBy w1 v.ownBlock) → Kp (base ≤ w1.heap.size) → wpList Tryz.prog ops Q rest (a.put o.dst v1) w1) :
    wpList Tryz.prog ops Q (o :: rest) a (W.alloc (.cells (recA p (.slice none 0 0)) 28)) :=
  have hm : recK.M W base (fun _ => False) p (recA p (.slice none 0 0)).toList := recK_M (by rw [hp]; exact Kd.R_nil _ _ _ _ _)
  Kd.R_append (w0 := w0) recK base hgd s x 57 28 (.agg #[.string ⟨#[]⟩, .int .i64 0, .int .i64 0, .int .u32 0, .bool false, .int .u8 0, .int .u8 0, .int .u8 0, .int .u8 0, .int .u8 0, .int .u8 0, .int .u8 0, .int .u8 0, .int .u8 0, .int .u8 0, .int .u8 0, .int .u8 0, .int .u8 0, .int .u8 0, .int .u8 0, .int .u8 0, .string ⟨#[]⟩, .slice none 0 0]) 96 ho Tryz.underlying57 (by kernel_rfl) rfl (by decide) (by decide) v xs p (recA p (.slice none 0 0)).toList (fun _ => True) (fun _ => False) hs hx hm (fun _ h => h.elim) (fun _ _ => trivial) HO HB hbase hl
    (fun v1 w1 h1 h2 h3 _ => h v1 w1 ⟨h1⟩ ⟨h2⟩ ⟨h3⟩ ⟨Nat.le_trans hbase h3.size⟩)
/-- One record, its data younger than the row, at a step of a region that draws its order. -/
theorem step_recD {K : Act → World → Prop} {E : Prop} (hgd : o.guard = none) (ho : o.op = .call { callee := .builtin .append, args := #[s, x], argTypes := #[57, 57] })
    (xs : List Rec) (p : Rec) (dv : Value) (b1 : Nat) (hs : a.eval s = v) (hx : a.eval x = .slice (some ⟨W.heap.size, 0, none⟩) 1 1) (hp : (Kd.int .u8).R 5 W b1 (fun _ => True) dv p.data) (hb1 : base ≤ b1) (hv : ∀ k, v.ownBlock = some k → k < b1) (HO : recK.R 28 W base (fun _ => True) v xs) (HB : Below base w0 W) (hbase : base ≤ W.heap.size) (hl : (xs.length + 1) * 96 ≤ 140737488355328)
    (h : ∀ v1 w1, Kp (recK.R 28 w1 base (fun _ => True) v1 (xs ++ [p])) → Kp (Below base w0 w1) → Kp (base ≤ w1.heap.size) → K (a.put o.dst v1) w1) :
    if Region.wanted o (yielded ops a.tmps) = true then Oper.wp Tryz.prog o a (W.alloc (.cells (recA p dv) 28)) K Q else E := by
  have hw : Region.wanted o (yielded ops a.tmps) = true := by simp [Region.wanted, hgd]
  have := Kd.R_append_step (P := Tryz.prog) (ops := ops) (o := o) (a := a) (Kc := K) (Q := Q) (w0 := w0) recK base hw s x 57 28 (.agg #[.string ⟨#[]⟩, .int .i64 0, .int .i64 0, .int .u32 0, .bool false, .int .u8 0, .int .u8 0, .int .u8 0, .int .u8 0, .int .u8 0, .int .u8 0, .int .u8 0, .int .u8 0, .int .u8 0, .int .u8 0, .int .u8 0, .int .u8 0, .int .u8 0, .int .u8 0, .int .u8 0, .int .u8 0, .string ⟨#[]⟩, .slice none 0 0]) 96 ho Tryz.underlying57 (by kernel_rfl) rfl (by decide) (by decide) v xs p (recA p dv).toList (fun _ => True) (fun k => b1 ≤ k) hs hx (recK_M (Kd.R_lower (Kd.R_mono (Kd.R_bound hp) (fun k hk => hk.2.1)) hb1)) (fun k hk => ⟨trivial, fun e => by have := hv k e.symm; omega⟩) (fun _ _ => trivial) HO HB hbase hl
    (fun v1 w1 h1 h2 h3 _ => h v1 w1 ⟨h1⟩ ⟨h2⟩ ⟨Nat.le_trans hbase h3.size⟩)
  rw [if_pos hw] at this ⊢
  exact this
end
theorem made_zeros (n : Nat) : madeCells (Value.int IntKind.u8 0).cells (n * 1) = ((List.replicate n (0 : Int)).map (Value.int .u8)).toArray := by
  have hc : (Value.int IntKind.u8 0).cells = #[Value.int IntKind.u8 0] := rfl
  rw [hc]
  apply Array.ext
  · simp [madeCells]
  · intro i h1 h2
    simp [madeCells, Nat.mod_one]
/-- The box, and the rows that it names, one apart from the other. -/
structure RfW (w W : World) (s2 s3 : Nat) (id : Int) (rp : Bool) (op co fl : Int) (v5 v6 v7 v8 : Value) (qs : List Qu) (an au ex : List Rec) : Prop where
  blk : W.heap[w.heap.size]? = some (.cells #[.int .i64 id, .bool rp, .int .i64 op, .int .i64 co, .int .i64 fl, v5, v6, v7, v8] 59 (0, 0))
  r5 : quK.R 30 W s3 (fun _ => True) v5 qs
  r6 : recK.R 28 W (w.heap.size + 1) (fun k => k < s2) v6 an
  r7 : recK.R 28 W (w.heap.size + 1) (fun k => k < s2) v7 au
  r8 : recK.R 28 W s2 (fun k => k < s3) v8 ex
  o2 : w.heap.size < s2
  o3 : s2 ≤ s3
  o4 : s3 ≤ W.heap.size
  be : Below w.heap.size w W
/-- .. as they are read. -/
structure RfC (w W : World) (id : Int) (rp : Bool) (op co fl : Int) (v5 v6 v7 v8 : Value) (qs : List Qu) (an au ex : List Rec) : Prop where
  blk : W.heap[w.heap.size]? = some (.cells #[.int .i64 id, .bool rp, .int .i64 op, .int .i64 co, .int .i64 fl, v5, v6, v7, v8] 59 (0, 0))
  rows : ∃ B5 B6 B7 B8 d5 d6 d7 d8, v5 = .slice B5 qs.length d5 ∧ v6 = .slice B6 an.length d6 ∧ v7 = .slice B7 au.length d7 ∧ v8 = .slice B8 ex.length d8 ∧ MsgC W ⟨id, rp, op, co, fl, qs, an, au, ex⟩ B5 B6 B7 B8 ∧ MsgCap ⟨id, rp, op, co, fl, qs, an, au, ex⟩ d5 d6 d7 d8
  be : Below w.heap.size w W
section
variable {w W W' : World} {s2 s3 : Nat} {id : Int} {rp : Bool} {op co fl : Int} {v5 v6 v7 v8 : Value} {qs : List Qu} {an au ex : List Rec}
theorem RfC.mk_ (hb : W.heap[w.heap.size]? = some (.cells #[.int .i64 id, .bool rp, .int .i64 op, .int .i64 co, .int .i64 fl, v5, v6, v7, v8] 59 (0, 0))) {b5 b6 b7 b8 : Nat} {k5 k6 k7 k8 : Nat → Prop} (r5 : quK.R 30 W b5 k5 v5 qs) (r6 : recK.R 28 W b6 k6 v6 an) (r7 : recK.R 28 W b7 k7 v7 au) (r8 : recK.R 28 W b8 k8 v8 ex) (be : Below w.heap.size w W) : RfC w W id rp op co fl v5 v6 v7 v8 qs an au ex := by
  obtain ⟨A5, c5, rfl, l5, q5⟩ := Kd.R_reads r5
  obtain ⟨A6, c6, rfl, l6, q6⟩ := Kd.R_reads r6
  obtain ⟨A7, c7, rfl, l7, q7⟩ := Kd.R_reads r7
  obtain ⟨A8, c8, rfl, l8, q8⟩ := Kd.R_reads r8
  exact ⟨hb, ⟨A5, A6, A7, A8, c5, c6, c7, c8, rfl, rfl, rfl, rfl, ⟨q5, q6, q7, q8⟩, ⟨l5, l6, l7, l8⟩⟩, be⟩
/-- One number of the head is written anew. -/
theorem RfW.num (h : RfW w W s2 s3 id rp op co fl v5 v6 v7 v8 qs an au ex) (i : Nat) (v : Value) {id' : Int} {rp' : Bool} {op' co' fl' : Int} (e : (#[.int .i64 id, .bool rp, .int .i64 op, .int .i64 co, .int .i64 fl, v5, v6, v7, v8] : Array Value).setIfInBounds i v = #[.int .i64 id', .bool rp', .int .i64 op', .int .i64 co', .int .i64 fl', v5, v6, v7, v8]) :
    RfC w (W.setCell ⟨w.heap.size, i, none⟩ v) id' rp' op' co' fl' v5 v6 v7 v8 qs an au ex := by
  have HO : ∀ k, k ≠ w.heap.size → (W.setCell ⟨w.heap.size, i, none⟩ v).heap[k]? = W.heap[k]? := fun k hk => Below.heap_setCell W ⟨w.heap.size, i, none⟩ v k hk
  have o2 := h.o2
  have o3 := h.o3
  exact RfC.mk_ (blk_put h.blk i v e) (R_stored h.r5 (by omega) HO) (R_stored h.r6 (by omega) HO) (R_stored h.r7 (by omega) HO) (R_stored h.r8 (by omega) HO) (h.be.setCell (p := ⟨w.heap.size, i, none⟩) (Nat.le_refl _) v)
/-- One question more. -/
theorem RfW.qu (h : RfW w W s2 s3 id rp op co fl v5 v6 v7 v8 qs an au ex) (hB : Below s3 W W') {v : Value} {qs' : List Qu} (hR : quK.R 30 W' s3 (fun _ => True) v qs') : RfC w (W'.setCell ⟨w.heap.size, 5, none⟩ v) id rp op co fl v v6 v7 v8 qs' an au ex := by
  have HO : ∀ k, k ≠ w.heap.size → (W'.setCell ⟨w.heap.size, 5, none⟩ v).heap[k]? = W'.heap[k]? := fun k hk => Below.heap_setCell W' ⟨w.heap.size, 5, none⟩ v k hk
  have o2 := h.o2
  have o3 := h.o3
  exact RfC.mk_ (blk_put ((hB.block _ (by omega)).trans h.blk) 5 v rfl) (R_stored hR (by omega) HO) (R_stored (Kd.R_step h.r6 (fun k hk _ => hB.block k (Nat.lt_of_lt_of_le hk o3))) (by omega) HO) (R_stored (Kd.R_step h.r7 (fun k hk _ => hB.block k (Nat.lt_of_lt_of_le hk o3))) (by omega) HO) (R_stored (Kd.R_step h.r8 (fun k hk _ => hB.block k hk)) (by omega) HO) ((h.be.trans (hB.mono (by omega))).setCell (p := ⟨w.heap.size, 5, none⟩) (Nat.le_refl _) v)
/-- One record more. -/
theorem RfW.re (h : RfW w W s2 s3 id rp op co fl v5 v6 v7 v8 qs an au ex) (hB : Below s2 W W') (hg : W.grownBy W' v8.ownBlock) {v : Value} {ex' : List Rec} (hR : recK.R 28 W' s2 (fun _ => True) v ex') : RfC w (W'.setCell ⟨w.heap.size, 8, none⟩ v) id rp op co fl v5 v6 v7 v qs an au ex' := by
  have HO : ∀ k, k ≠ w.heap.size → (W'.setCell ⟨w.heap.size, 8, none⟩ v).heap[k]? = W'.heap[k]? := fun k hk => Below.heap_setCell W' ⟨w.heap.size, 8, none⟩ v k hk
  have o2 := h.o2
  have o3 := h.o3
  exact RfC.mk_ (blk_put ((hB.block _ (by omega)).trans h.blk) 8 v rfl) (R_stored (Kd.R_grown (Kd.R_bound h.r5) hg (fun k hk e => by have := h.r8.1 k e.symm; have := hk.2.1; omega)) (by omega) HO) (R_stored (Kd.R_step h.r6 (fun k hk _ => hB.block k hk)) (by omega) HO) (R_stored (Kd.R_step h.r7 (fun k hk _ => hB.block k hk)) (by omega) HO) (R_stored hR (by omega) HO) ((h.be.trans (hB.mono (by omega))).setCell (p := ⟨w.heap.size, 8, none⟩) (Nat.le_refl _) v)
end
/-- While records are laid into an empty message. -/
structure BgW (w W : World) (v6 : Value) (rs : List Rec) : Prop where
  blk : W.heap[w.heap.size]? = some (.cells #[.int .i64 0, .bool false, .int .i64 0, .int .i64 0, .int .i64 0, .slice none 0 0, v6, .slice none 0 0, .slice none 0 0] 59 (0, 0))
  rr : recK.R 28 W (w.heap.size + 1) (fun _ => True) v6 rs
  be : Below w.heap.size w W
  sz : w.heap.size + 1 ≤ W.heap.size
section
variable {w W W' : World} {v6 : Value} {rs : List Rec}
theorem BgW.step (h : BgW w W v6 rs) (hb : Below W.heap.size W W') : BgW w W' v6 rs := ⟨newA hb h.blk, Kd.R_below h.rr hb, below_step h.be hb, Nat.le_trans h.sz hb.size⟩
theorem BgW.put (h : BgW w W v6 rs) (hB : Below (w.heap.size + 1) W W') {v : Value} {rs' : List Rec} (hR : recK.R 28 W' (w.heap.size + 1) (fun _ => True) v rs') (hs : w.heap.size + 1 ≤ W'.heap.size) : BgW w (W'.setCell ⟨w.heap.size, 6, none⟩ v) v rs' :=
  ⟨blk_put ((hB.block _ (Nat.lt_succ_self _)).trans h.blk) 6 v rfl, R_stored hR (Nat.lt_succ_self _) (fun k hk => Below.heap_setCell W' ⟨w.heap.size, 6, none⟩ v k hk), (h.be.trans (hB.mono (Nat.le_succ _))).setCell (p := ⟨w.heap.size, 6, none⟩) (Nat.le_refl _) v, by simpa using hs⟩
end
theorem dnsmsgRefuses0 (w : World) (m : Msg) (A5 A6 A7 A8 : Option Addr) (c5 c6 c7 c8 : Nat) (hM : MsgC w m A5 A6 A7 A8) (hcap : MsgCap m c5 c6 c7 c8) (hw : m.fit) (a : Int) (hk : (IntKind.u64.wrap a).tmod 7 = 0) (b : Int) (hE : Env w) :
    Calls Tryz.prog 8 #[.agg (msgA m (.slice A5 m.qs.length c5) (.slice A6 m.an.length c6) (.slice A7 m.au.length c7) (.slice A8 m.ex.length c8)), .int .i64 a, .int .i64 b] w fun e w' => e = .returned (.bool true) ∧ Below w.heap.size w w' := by
  have hg := playMsg_good m (fun r hr => hw.rs r hr)
  have HP := Kp.mk (fun (W : World) (h : MsgC W m A5 A6 A7 A8) => playMsg_calls2 m A5 A6 A7 A8 c5 c6 c7 c8 W h hcap hw)
  obtain ⟨pm, hpm⟩ : ∃ pm, playMsg m = pm := ⟨_, rfl⟩
  rw [hpm] at hg HP
  have hfq : ∀ q ∈ pm.qs, q.name.length < 4294967281 := fun q hq => by have := hg.nm q hq; omega
  have hfr : ∀ r ∈ pm.all, r.Fit := fun r hr => by have := hg.rn r hr; exact ⟨by omega, by omega, by omega, (hg.ok r hr).2⟩
  have hln := hg.ln
  have hrq := hg.qs
  obtain ⟨id, rp, op, co, fl, qs, an, au, ex⟩ := m
  dsimp only at HP
  show Calls Tryz.prog 8 #[.agg #[.int .i64 id, .bool rp, .int .i64 op, .int .i64 co, .int .i64 fl, .slice A5 qs.length c5, .slice A6 an.length c6, .slice A7 au.length c7, .slice A8 ex.length c8], .int .i64 a, .int .i64 b] w fun e w' => e = .returned (.bool true) ∧ Below w.heap.size w w'
  have HS0 := Kp.mk (St.start hE)
  have HSB := Kp.mk ((St.start hE).alloc (.cells #[.int .i64 id, .bool rp, .int .i64 op, .int .i64 co, .int .i64 fl, .slice A5 qs.length c5, .slice A6 an.length c6, .slice A7 au.length c7, .slice A8 ex.length c8] 59))
  have Hg0 := Kp.mk (heap_new w (.cells #[.int .i64 id, .bool rp, .int .i64 op, .int .i64 co, .int .i64 fl, .slice A5 qs.length c5, .slice A6 an.length c6, .slice A7 au.length c7, .slice A8 ex.length c8] 59))
  have HM0 := Kp.mk (hM.below HSB.out.below)
  have HBAD := Kp.mk (bad_id pm)
  obtain ⟨pi, pr, po, pc, pf, pq, pa, pu, pe⟩ := pm
  have hfa : ∀ r ∈ pa ++ pu ++ pe, r.Fit := hfr
  dsimp only at hfq hln hrq HBAD
  have HFQ := Kp.mk hfq
  have HFR := Kp.mk hfa
  clear hE hM hw hg hpm hfq hfr hfa hrq
  go_enter Tryz.func8, Tryz.ntmps8
  go_wp2_with (with_reducible refine ld_blk rfl 59 (.tmp 3) rfl w.heap.size rfl Hg0 Tryz.underlying59 rfl (by kernel_rfl) ?_)
  refine (HP.out _ HM0.out).mono ?_
  rintro e0 w1 ⟨B5, B6, B7, B8, d5, d6, d7, d8, s2, s3, rfl, o1, o2, o3, r5, r6, r7, r8, hB1⟩
  have hz0 : (w.alloc (.cells #[.int .i64 id, .bool rp, .int .i64 op, .int .i64 co, .int .i64 fl, .slice A5 qs.length c5, .slice A6 an.length c6, .slice A7 au.length c7, .slice A8 ex.length c8] 59)).heap.size = w.heap.size + 1 := by simp
  rw [hz0] at o1 r6 r7
  have Hg1 := Kp.mk ((hB1.block _ (heap_lt Hg0.out)).trans Hg0.out)
  have HS1 := Kp.mk (HSB.out.step hB1)
  have HL1 := Kp.mk HS1.out.below
  have HR5 := Kp.mk r5
  have HR6 := Kp.mk r6
  have HR7 := Kp.mk r7
  have HR8 := Kp.mk r8
  have HO1 : Kp (w.heap.size < s2 ∧ s2 ≤ s3 ∧ s3 ≤ w1.heap.size) := ⟨by omega⟩
  clear hB1 r5 r6 r7 r8 o1 o2 o3 hz0
  go_wp2_with (with_reducible refine st_blk (w0 := w) (base := w.heap.size) rfl 59 (.tmp 3) (.tmp 12) rfl rfl w.heap.size _ rfl rfl Hg1 (by kernel_rfl) (by kernel_rfl) (by kernel_rfl) HL1 (Nat.le_refl _) ?_)
  intro w2 Hg2 HO2 HB2 hs2
  have HW2 : Kp (RfW w w2 s2 s3 pi pr po pc pf (.slice B5 pq.length d5) (.slice B6 pa.length d6) (.slice B7 pu.length d7) (.slice B8 pe.length d8) pq pa pu pe) := ⟨by
    have h1 := HO1.out.1
    have h2 := HO1.out.2.1
    exact ⟨Hg2.out, R_stored HR5.out (by omega) HO2.out, R_stored HR6.out (by omega) HO2.out, R_stored HR7.out (by omega) HO2.out, R_stored HR8.out (by omega) HO2.out, h1, h2, by rw [hs2]; exact HO1.out.2.2, HB2.out⟩⟩
  clear hs2 HO2 HL1 HR5 HR6 HR7 HR8 Hg1 HB2 HO1 HS1 HSB HM0 HP Hg0
  have d := blk_cell HW2.out.blk 0
  have f := blk_frozen HW2.out.blk 0
  have HC0 := Kp.mk (HW2.out.num 0 (.int .i64 65536) (id' := 65536) (rp' := pr) (op' := po) (co' := pc) (fl' := pf) rfl)
  clear HW2
  go_upto_region 23 with (fail)
  generalize w2.setCell ⟨w.heap.size, 0, none⟩ (.int .i64 65536) = WC at HC0 ⊢
  have HC := HC0
  clear HC0 d f
  obtain ⟨E5, E6, E7, E8, g5, g6, g7, g8, j5, j6, j7, j8, hmc, hmp⟩ := HC.out.rows
  have HSc : Kp (St w WC) := ⟨⟨HC.out.be, HS0.out.env.below HC.out.be⟩⟩
  have HGc : Kp (WC.heap[w.heap.size]? = some (.cells (msgA ⟨65536, pr, po, pc, pf, pq, pa, pu, pe⟩ (.slice E5 (List.length (pq : List Qu)) g5) (.slice E6 (List.length (pa : List Rec)) g6) (.slice E7 (List.length (pu : List Rec)) g7) (.slice E8 (List.length (pe : List Rec)) g8)) 59 (0, 0))) := ⟨by rw [← j5, ← j6, ← j7, ← j8]; exact HC.out.blk⟩
  have hwc := write_calls ⟨65536, pr, po, pc, pf, pq, pa, pu, pe⟩ E5 E6 E7 E8 g5 g6 g7 g8 WC [] (.code 1) HSc.out.env hmc.qs hmp.c5 hmc.an hmp.c6 hmc.au hmp.c7 hmc.ex hmp.c8 HFQ.out HFR.out (by dsimp only; omega) (by dsimp only; omega) HBAD.out
  have HWC := Kp.mk hwc
  clear hwc hmc hmp j5 j6 j7 j8 HC
  go_wp2_with (with_reducible refine ld_blk rfl 59 (.tmp 3) rfl w.heap.size rfl HGc Tryz.underlying59 rfl (by kernel_rfl) ?_)
  refine g2_ HWC.out HSc ?_
  intro v9 v9e w6 HM6 HE6 HB6 HS6
  obtain ⟨A9, c9, rfl, -, -⟩ := slice_open (bytesK.K_of_M HM6.out)
  obtain rfl := er_open_code (erK.K_of_M HE6.out)
  clear HM6 HE6 HWC HGc
  go_wp2_with (fail)
  refine b_ (awake14_calls _ HS6.out.env) HS6 ?_
  intro w7 HB7 HS7
  go_wp2_with (fail)
  refine b_ (bareD_calls 1 _) HS7 ?_
  intro w8 HB8 HS8
  go_wp2_with (fail)
  refine b_ (same_calls (.code 1) _ _ ⟨_, rfl, rfl⟩ HS8.out.env (.inr (by decide))) HS8 ?_
  intro w9 HB9 HS9
  go_wp2
  go_ret
  exact ⟨rfl, HS9.out.below⟩
theorem dnsmsgRefuses1 (w : World) (m : Msg) (A5 A6 A7 A8 : Option Addr) (c5 c6 c7 c8 : Nat) (hM : MsgC w m A5 A6 A7 A8) (hcap : MsgCap m c5 c6 c7 c8) (hw : m.fit) (a : Int) (hk : (IntKind.u64.wrap a).tmod 7 = 1) (b : Int) (hE : Env w) :
    Calls Tryz.prog 8 #[.agg (msgA m (.slice A5 m.qs.length c5) (.slice A6 m.an.length c6) (.slice A7 m.au.length c7) (.slice A8 m.ex.length c8)), .int .i64 a, .int .i64 b] w fun e w' => e = .returned (.bool true) ∧ Below w.heap.size w w' := by
  have hg := playMsg_good m (fun r hr => hw.rs r hr)
  have HP := Kp.mk (fun (W : World) (h : MsgC W m A5 A6 A7 A8) => playMsg_calls2 m A5 A6 A7 A8 c5 c6 c7 c8 W h hcap hw)
  obtain ⟨pm, hpm⟩ : ∃ pm, playMsg m = pm := ⟨_, rfl⟩
  rw [hpm] at hg HP
  have hfq : ∀ q ∈ pm.qs, q.name.length < 4294967281 := fun q hq => by have := hg.nm q hq; omega
  have hfr : ∀ r ∈ pm.all, r.Fit := fun r hr => by have := hg.rn r hr; exact ⟨by omega, by omega, by omega, (hg.ok r hr).2⟩
  have hln := hg.ln
  have hrq := hg.qs
  obtain ⟨id, rp, op, co, fl, qs, an, au, ex⟩ := m
  dsimp only at HP
  show Calls Tryz.prog 8 #[.agg #[.int .i64 id, .bool rp, .int .i64 op, .int .i64 co, .int .i64 fl, .slice A5 qs.length c5, .slice A6 an.length c6, .slice A7 au.length c7, .slice A8 ex.length c8], .int .i64 a, .int .i64 b] w fun e w' => e = .returned (.bool true) ∧ Below w.heap.size w w'
  have HS0 := Kp.mk (St.start hE)
  have HSB := Kp.mk ((St.start hE).alloc (.cells #[.int .i64 id, .bool rp, .int .i64 op, .int .i64 co, .int .i64 fl, .slice A5 qs.length c5, .slice A6 an.length c6, .slice A7 au.length c7, .slice A8 ex.length c8] 59))
  have Hg0 := Kp.mk (heap_new w (.cells #[.int .i64 id, .bool rp, .int .i64 op, .int .i64 co, .int .i64 fl, .slice A5 qs.length c5, .slice A6 an.length c6, .slice A7 au.length c7, .slice A8 ex.length c8] 59))
  have HM0 := Kp.mk (hM.below HSB.out.below)
  have HBAD := Kp.mk (bad_op pm)
  obtain ⟨pi, pr, po, pc, pf, pq, pa, pu, pe⟩ := pm
  have hfa : ∀ r ∈ pa ++ pu ++ pe, r.Fit := hfr
  dsimp only at hfq hln hrq HBAD
  have HFQ := Kp.mk hfq
  have HFR := Kp.mk hfa
  clear hE hM hw hg hpm hfq hfr hfa hrq
  go_enter Tryz.func8, Tryz.ntmps8
  go_wp2_with (with_reducible refine ld_blk rfl 59 (.tmp 3) rfl w.heap.size rfl Hg0 Tryz.underlying59 rfl (by kernel_rfl) ?_)
  refine (HP.out _ HM0.out).mono ?_
  rintro e0 w1 ⟨B5, B6, B7, B8, d5, d6, d7, d8, s2, s3, rfl, o1, o2, o3, r5, r6, r7, r8, hB1⟩
  have hz0 : (w.alloc (.cells #[.int .i64 id, .bool rp, .int .i64 op, .int .i64 co, .int .i64 fl, .slice A5 qs.length c5, .slice A6 an.length c6, .slice A7 au.length c7, .slice A8 ex.length c8] 59)).heap.size = w.heap.size + 1 := by simp
  rw [hz0] at o1 r6 r7
  have Hg1 := Kp.mk ((hB1.block _ (heap_lt Hg0.out)).trans Hg0.out)
  have HS1 := Kp.mk (HSB.out.step hB1)
  have HL1 := Kp.mk HS1.out.below
  have HR5 := Kp.mk r5
  have HR6 := Kp.mk r6
  have HR7 := Kp.mk r7
  have HR8 := Kp.mk r8
  have HO1 : Kp (w.heap.size < s2 ∧ s2 ≤ s3 ∧ s3 ≤ w1.heap.size) := ⟨by omega⟩
  clear hB1 r5 r6 r7 r8 o1 o2 o3 hz0
  go_wp2_with (with_reducible refine st_blk (w0 := w) (base := w.heap.size) rfl 59 (.tmp 3) (.tmp 12) rfl rfl w.heap.size _ rfl rfl Hg1 (by kernel_rfl) (by kernel_rfl) (by kernel_rfl) HL1 (Nat.le_refl _) ?_)
  intro w2 Hg2 HO2 HB2 hs2
  have HW2 : Kp (RfW w w2 s2 s3 pi pr po pc pf (.slice B5 pq.length d5) (.slice B6 pa.length d6) (.slice B7 pu.length d7) (.slice B8 pe.length d8) pq pa pu pe) := ⟨by
    have h1 := HO1.out.1
    have h2 := HO1.out.2.1
    exact ⟨Hg2.out, R_stored HR5.out (by omega) HO2.out, R_stored HR6.out (by omega) HO2.out, R_stored HR7.out (by omega) HO2.out, R_stored HR8.out (by omega) HO2.out, h1, h2, by rw [hs2]; exact HO1.out.2.2, HB2.out⟩⟩
  clear hs2 HO2 HL1 HR5 HR6 HR7 HR8 Hg1 HB2 HO1 HS1 HSB HM0 HP Hg0
  have d := blk_cell HW2.out.blk 2
  have f := blk_frozen HW2.out.blk 2
  have HC0 := Kp.mk (HW2.out.num 2 (.int .i64 16) (id' := pi) (rp' := pr) (op' := 16) (co' := pc) (fl' := pf) rfl)
  clear HW2
  go_upto_region 23 with (fail)
  generalize w2.setCell ⟨w.heap.size, 2, none⟩ (.int .i64 16) = WC at HC0 ⊢
  have HC := HC0
  clear HC0 d f
  obtain ⟨E5, E6, E7, E8, g5, g6, g7, g8, j5, j6, j7, j8, hmc, hmp⟩ := HC.out.rows
  have HSc : Kp (St w WC) := ⟨⟨HC.out.be, HS0.out.env.below HC.out.be⟩⟩
  have HGc : Kp (WC.heap[w.heap.size]? = some (.cells (msgA ⟨pi, pr, 16, pc, pf, pq, pa, pu, pe⟩ (.slice E5 (List.length (pq : List Qu)) g5) (.slice E6 (List.length (pa : List Rec)) g6) (.slice E7 (List.length (pu : List Rec)) g7) (.slice E8 (List.length (pe : List Rec)) g8)) 59 (0, 0))) := ⟨by rw [← j5, ← j6, ← j7, ← j8]; exact HC.out.blk⟩
  have hwc := write_calls ⟨pi, pr, 16, pc, pf, pq, pa, pu, pe⟩ E5 E6 E7 E8 g5 g6 g7 g8 WC [] (.code 1) HSc.out.env hmc.qs hmp.c5 hmc.an hmp.c6 hmc.au hmp.c7 hmc.ex hmp.c8 HFQ.out HFR.out (by dsimp only; omega) (by dsimp only; omega) HBAD.out
  have HWC := Kp.mk hwc
  clear hwc hmc hmp j5 j6 j7 j8 HC
  go_wp2_with (with_reducible refine ld_blk rfl 59 (.tmp 3) rfl w.heap.size rfl HGc Tryz.underlying59 rfl (by kernel_rfl) ?_)
  refine g2_ HWC.out HSc ?_
  intro v9 v9e w6 HM6 HE6 HB6 HS6
  obtain ⟨A9, c9, rfl, -, -⟩ := slice_open (bytesK.K_of_M HM6.out)
  obtain rfl := er_open_code (erK.K_of_M HE6.out)
  clear HM6 HE6 HWC HGc
  go_wp2_with (fail)
  refine b_ (awake14_calls _ HS6.out.env) HS6 ?_
  intro w7 HB7 HS7
  go_wp2_with (fail)
  refine b_ (bareD_calls 1 _) HS7 ?_
  intro w8 HB8 HS8
  go_wp2_with (fail)
  refine b_ (same_calls (.code 1) _ _ ⟨_, rfl, rfl⟩ HS8.out.env (.inr (by decide))) HS8 ?_
  intro w9 HB9 HS9
  go_wp2
  go_ret
  exact ⟨rfl, HS9.out.below⟩
theorem dnsmsgRefuses2 (w : World) (m : Msg) (A5 A6 A7 A8 : Option Addr) (c5 c6 c7 c8 : Nat) (hM : MsgC w m A5 A6 A7 A8) (hcap : MsgCap m c5 c6 c7 c8) (hw : m.fit) (a : Int) (hk : (IntKind.u64.wrap a).tmod 7 = 2) (b : Int) (hE : Env w) :
    Calls Tryz.prog 8 #[.agg (msgA m (.slice A5 m.qs.length c5) (.slice A6 m.an.length c6) (.slice A7 m.au.length c7) (.slice A8 m.ex.length c8)), .int .i64 a, .int .i64 b] w fun e w' => e = .returned (.bool true) ∧ Below w.heap.size w w' := by
  have hg := playMsg_good m (fun r hr => hw.rs r hr)
  have HP := Kp.mk (fun (W : World) (h : MsgC W m A5 A6 A7 A8) => playMsg_calls2 m A5 A6 A7 A8 c5 c6 c7 c8 W h hcap hw)
  obtain ⟨pm, hpm⟩ : ∃ pm, playMsg m = pm := ⟨_, rfl⟩
  rw [hpm] at hg HP
  have hfq : ∀ q ∈ pm.qs, q.name.length < 4294967281 := fun q hq => by have := hg.nm q hq; omega
  have hfr : ∀ r ∈ pm.all, r.Fit := fun r hr => by have := hg.rn r hr; exact ⟨by omega, by omega, by omega, (hg.ok r hr).2⟩
  have hln := hg.ln
  have hrq := hg.qs
  obtain ⟨id, rp, op, co, fl, qs, an, au, ex⟩ := m
  dsimp only at HP
  show Calls Tryz.prog 8 #[.agg #[.int .i64 id, .bool rp, .int .i64 op, .int .i64 co, .int .i64 fl, .slice A5 qs.length c5, .slice A6 an.length c6, .slice A7 au.length c7, .slice A8 ex.length c8], .int .i64 a, .int .i64 b] w fun e w' => e = .returned (.bool true) ∧ Below w.heap.size w w'
  have HS0 := Kp.mk (St.start hE)
  have HSB := Kp.mk ((St.start hE).alloc (.cells #[.int .i64 id, .bool rp, .int .i64 op, .int .i64 co, .int .i64 fl, .slice A5 qs.length c5, .slice A6 an.length c6, .slice A7 au.length c7, .slice A8 ex.length c8] 59))
  have Hg0 := Kp.mk (heap_new w (.cells #[.int .i64 id, .bool rp, .int .i64 op, .int .i64 co, .int .i64 fl, .slice A5 qs.length c5, .slice A6 an.length c6, .slice A7 au.length c7, .slice A8 ex.length c8] 59))
  have HM0 := Kp.mk (hM.below HSB.out.below)
  have HBAD := Kp.mk (bad_co pm)
  obtain ⟨pi, pr, po, pc, pf, pq, pa, pu, pe⟩ := pm
  have hfa : ∀ r ∈ pa ++ pu ++ pe, r.Fit := hfr
  dsimp only at hfq hln hrq HBAD
  have HFQ := Kp.mk hfq
  have HFR := Kp.mk hfa
  clear hE hM hw hg hpm hfq hfr hfa hrq
  go_enter Tryz.func8, Tryz.ntmps8
  go_wp2_with (with_reducible refine ld_blk rfl 59 (.tmp 3) rfl w.heap.size rfl Hg0 Tryz.underlying59 rfl (by kernel_rfl) ?_)
  refine (HP.out _ HM0.out).mono ?_
  rintro e0 w1 ⟨B5, B6, B7, B8, d5, d6, d7, d8, s2, s3, rfl, o1, o2, o3, r5, r6, r7, r8, hB1⟩
  have hz0 : (w.alloc (.cells #[.int .i64 id, .bool rp, .int .i64 op, .int .i64 co, .int .i64 fl, .slice A5 qs.length c5, .slice A6 an.length c6, .slice A7 au.length c7, .slice A8 ex.length c8] 59)).heap.size = w.heap.size + 1 := by simp
  rw [hz0] at o1 r6 r7
  have Hg1 := Kp.mk ((hB1.block _ (heap_lt Hg0.out)).trans Hg0.out)
  have HS1 := Kp.mk (HSB.out.step hB1)
  have HL1 := Kp.mk HS1.out.below
  have HR5 := Kp.mk r5
  have HR6 := Kp.mk r6
  have HR7 := Kp.mk r7
  have HR8 := Kp.mk r8
  have HO1 : Kp (w.heap.size < s2 ∧ s2 ≤ s3 ∧ s3 ≤ w1.heap.size) := ⟨by omega⟩
  clear hB1 r5 r6 r7 r8 o1 o2 o3 hz0
  go_wp2_with (with_reducible refine st_blk (w0 := w) (base := w.heap.size) rfl 59 (.tmp 3) (.tmp 12) rfl rfl w.heap.size _ rfl rfl Hg1 (by kernel_rfl) (by kernel_rfl) (by kernel_rfl) HL1 (Nat.le_refl _) ?_)
  intro w2 Hg2 HO2 HB2 hs2
  have HW2 : Kp (RfW w w2 s2 s3 pi pr po pc pf (.slice B5 pq.length d5) (.slice B6 pa.length d6) (.slice B7 pu.length d7) (.slice B8 pe.length d8) pq pa pu pe) := ⟨by
    have h1 := HO1.out.1
    have h2 := HO1.out.2.1
    exact ⟨Hg2.out, R_stored HR5.out (by omega) HO2.out, R_stored HR6.out (by omega) HO2.out, R_stored HR7.out (by omega) HO2.out, R_stored HR8.out (by omega) HO2.out, h1, h2, by rw [hs2]; exact HO1.out.2.2, HB2.out⟩⟩
  clear hs2 HO2 HL1 HR5 HR6 HR7 HR8 Hg1 HB2 HO1 HS1 HSB HM0 HP Hg0
  have d := blk_cell HW2.out.blk 3
  have f := blk_frozen HW2.out.blk 3
  have HC0 := Kp.mk (HW2.out.num 3 (.int .i64 (-1)) (id' := pi) (rp' := pr) (op' := po) (co' := -1) (fl' := pf) rfl)
  clear HW2
  go_upto_region 23 with (fail)
  generalize w2.setCell ⟨w.heap.size, 3, none⟩ (.int .i64 (-1)) = WC at HC0 ⊢
  have HC := HC0
  clear HC0 d f
  obtain ⟨E5, E6, E7, E8, g5, g6, g7, g8, j5, j6, j7, j8, hmc, hmp⟩ := HC.out.rows
  have HSc : Kp (St w WC) := ⟨⟨HC.out.be, HS0.out.env.below HC.out.be⟩⟩
  have HGc : Kp (WC.heap[w.heap.size]? = some (.cells (msgA ⟨pi, pr, po, -1, pf, pq, pa, pu, pe⟩ (.slice E5 (List.length (pq : List Qu)) g5) (.slice E6 (List.length (pa : List Rec)) g6) (.slice E7 (List.length (pu : List Rec)) g7) (.slice E8 (List.length (pe : List Rec)) g8)) 59 (0, 0))) := ⟨by rw [← j5, ← j6, ← j7, ← j8]; exact HC.out.blk⟩
  have hwc := write_calls ⟨pi, pr, po, -1, pf, pq, pa, pu, pe⟩ E5 E6 E7 E8 g5 g6 g7 g8 WC [] (.code 1) HSc.out.env hmc.qs hmp.c5 hmc.an hmp.c6 hmc.au hmp.c7 hmc.ex hmp.c8 HFQ.out HFR.out (by dsimp only; omega) (by dsimp only; omega) HBAD.out
  have HWC := Kp.mk hwc
  clear hwc hmc hmp j5 j6 j7 j8 HC
  go_wp2_with (with_reducible refine ld_blk rfl 59 (.tmp 3) rfl w.heap.size rfl HGc Tryz.underlying59 rfl (by kernel_rfl) ?_)
  refine g2_ HWC.out HSc ?_
  intro v9 v9e w6 HM6 HE6 HB6 HS6
  obtain ⟨A9, c9, rfl, -, -⟩ := slice_open (bytesK.K_of_M HM6.out)
  obtain rfl := er_open_code (erK.K_of_M HE6.out)
  clear HM6 HE6 HWC HGc
  go_wp2_with (fail)
  refine b_ (awake14_calls _ HS6.out.env) HS6 ?_
  intro w7 HB7 HS7
  go_wp2_with (fail)
  refine b_ (bareD_calls 1 _) HS7 ?_
  intro w8 HB8 HS8
  go_wp2_with (fail)
  refine b_ (same_calls (.code 1) _ _ ⟨_, rfl, rfl⟩ HS8.out.env (.inr (by decide))) HS8 ?_
  intro w9 HB9 HS9
  go_wp2
  go_ret
  exact ⟨rfl, HS9.out.below⟩
theorem dnsmsgRefuses3 (w : World) (m : Msg) (A5 A6 A7 A8 : Option Addr) (c5 c6 c7 c8 : Nat) (hM : MsgC w m A5 A6 A7 A8) (hcap : MsgCap m c5 c6 c7 c8) (hw : m.fit) (a : Int) (hk : (IntKind.u64.wrap a).tmod 7 = 3) (b : Int) (hE : Env w) :
    Calls Tryz.prog 8 #[.agg (msgA m (.slice A5 m.qs.length c5) (.slice A6 m.an.length c6) (.slice A7 m.au.length c7) (.slice A8 m.ex.length c8)), .int .i64 a, .int .i64 b] w fun e w' => e = .returned (.bool true) ∧ Below w.heap.size w w' := by
  have hg := playMsg_good m (fun r hr => hw.rs r hr)
  have HP := Kp.mk (fun (W : World) (h : MsgC W m A5 A6 A7 A8) => playMsg_calls2 m A5 A6 A7 A8 c5 c6 c7 c8 W h hcap hw)
  obtain ⟨pm, hpm⟩ : ∃ pm, playMsg m = pm := ⟨_, rfl⟩
  rw [hpm] at hg HP
  have hfq : ∀ q ∈ pm.qs, q.name.length < 4294967281 := fun q hq => by have := hg.nm q hq; omega
  have hfr : ∀ r ∈ pm.all, r.Fit := fun r hr => by have := hg.rn r hr; exact ⟨by omega, by omega, by omega, (hg.ok r hr).2⟩
  have hln := hg.ln
  have hrq := hg.qs
  obtain ⟨id, rp, op, co, fl, qs, an, au, ex⟩ := m
  dsimp only at HP
  show Calls Tryz.prog 8 #[.agg #[.int .i64 id, .bool rp, .int .i64 op, .int .i64 co, .int .i64 fl, .slice A5 qs.length c5, .slice A6 an.length c6, .slice A7 au.length c7, .slice A8 ex.length c8], .int .i64 a, .int .i64 b] w fun e w' => e = .returned (.bool true) ∧ Below w.heap.size w w'
  have HS0 := Kp.mk (St.start hE)
  have HSB := Kp.mk ((St.start hE).alloc (.cells #[.int .i64 id, .bool rp, .int .i64 op, .int .i64 co, .int .i64 fl, .slice A5 qs.length c5, .slice A6 an.length c6, .slice A7 au.length c7, .slice A8 ex.length c8] 59))
  have Hg0 := Kp.mk (heap_new w (.cells #[.int .i64 id, .bool rp, .int .i64 op, .int .i64 co, .int .i64 fl, .slice A5 qs.length c5, .slice A6 an.length c6, .slice A7 au.length c7, .slice A8 ex.length c8] 59))
  have HM0 := Kp.mk (hM.below HSB.out.below)
  have HBAD := Kp.mk (bad_fl pm)
  obtain ⟨pi, pr, po, pc, pf, pq, pa, pu, pe⟩ := pm
  have hfa : ∀ r ∈ pa ++ pu ++ pe, r.Fit := hfr
  dsimp only at hfq hln hrq HBAD
  have HFQ := Kp.mk hfq
  have HFR := Kp.mk hfa
  clear hE hM hw hg hpm hfq hfr hfa hrq
  go_enter Tryz.func8, Tryz.ntmps8
  go_wp2_with (with_reducible refine ld_blk rfl 59 (.tmp 3) rfl w.heap.size rfl Hg0 Tryz.underlying59 rfl (by kernel_rfl) ?_)
  refine (HP.out _ HM0.out).mono ?_
  rintro e0 w1 ⟨B5, B6, B7, B8, d5, d6, d7, d8, s2, s3, rfl, o1, o2, o3, r5, r6, r7, r8, hB1⟩
  have hz0 : (w.alloc (.cells #[.int .i64 id, .bool rp, .int .i64 op, .int .i64 co, .int .i64 fl, .slice A5 qs.length c5, .slice A6 an.length c6, .slice A7 au.length c7, .slice A8 ex.length c8] 59)).heap.size = w.heap.size + 1 := by simp
  rw [hz0] at o1 r6 r7
  have Hg1 := Kp.mk ((hB1.block _ (heap_lt Hg0.out)).trans Hg0.out)
  have HS1 := Kp.mk (HSB.out.step hB1)
  have HL1 := Kp.mk HS1.out.below
  have HR5 := Kp.mk r5
  have HR6 := Kp.mk r6
  have HR7 := Kp.mk r7
  have HR8 := Kp.mk r8
  have HO1 : Kp (w.heap.size < s2 ∧ s2 ≤ s3 ∧ s3 ≤ w1.heap.size) := ⟨by omega⟩
  clear hB1 r5 r6 r7 r8 o1 o2 o3 hz0
  go_wp2_with (with_reducible refine st_blk (w0 := w) (base := w.heap.size) rfl 59 (.tmp 3) (.tmp 12) rfl rfl w.heap.size _ rfl rfl Hg1 (by kernel_rfl) (by kernel_rfl) (by kernel_rfl) HL1 (Nat.le_refl _) ?_)
  intro w2 Hg2 HO2 HB2 hs2
  have HW2 : Kp (RfW w w2 s2 s3 pi pr po pc pf (.slice B5 pq.length d5) (.slice B6 pa.length d6) (.slice B7 pu.length d7) (.slice B8 pe.length d8) pq pa pu pe) := ⟨by
    have h1 := HO1.out.1
    have h2 := HO1.out.2.1
    exact ⟨Hg2.out, R_stored HR5.out (by omega) HO2.out, R_stored HR6.out (by omega) HO2.out, R_stored HR7.out (by omega) HO2.out, R_stored HR8.out (by omega) HO2.out, h1, h2, by rw [hs2]; exact HO1.out.2.2, HB2.out⟩⟩
  clear hs2 HO2 HL1 HR5 HR6 HR7 HR8 Hg1 HB2 HO1 HS1 HSB HM0 HP Hg0
  have d := blk_cell HW2.out.blk 4
  have f := blk_frozen HW2.out.blk 4
  have HC0 := Kp.mk (HW2.out.num 4 (.int .i64 128) (id' := pi) (rp' := pr) (op' := po) (co' := pc) (fl' := 128) rfl)
  clear HW2
  go_upto_region 23 with (fail)
  generalize w2.setCell ⟨w.heap.size, 4, none⟩ (.int .i64 128) = WC at HC0 ⊢
  have HC := HC0
  clear HC0 d f
  obtain ⟨E5, E6, E7, E8, g5, g6, g7, g8, j5, j6, j7, j8, hmc, hmp⟩ := HC.out.rows
  have HSc : Kp (St w WC) := ⟨⟨HC.out.be, HS0.out.env.below HC.out.be⟩⟩
  have HGc : Kp (WC.heap[w.heap.size]? = some (.cells (msgA ⟨pi, pr, po, pc, 128, pq, pa, pu, pe⟩ (.slice E5 (List.length (pq : List Qu)) g5) (.slice E6 (List.length (pa : List Rec)) g6) (.slice E7 (List.length (pu : List Rec)) g7) (.slice E8 (List.length (pe : List Rec)) g8)) 59 (0, 0))) := ⟨by rw [← j5, ← j6, ← j7, ← j8]; exact HC.out.blk⟩
  have hwc := write_calls ⟨pi, pr, po, pc, 128, pq, pa, pu, pe⟩ E5 E6 E7 E8 g5 g6 g7 g8 WC [] (.code 1) HSc.out.env hmc.qs hmp.c5 hmc.an hmp.c6 hmc.au hmp.c7 hmc.ex hmp.c8 HFQ.out HFR.out (by dsimp only; omega) (by dsimp only; omega) HBAD.out
  have HWC := Kp.mk hwc
  clear hwc hmc hmp j5 j6 j7 j8 HC
  go_wp2_with (with_reducible refine ld_blk rfl 59 (.tmp 3) rfl w.heap.size rfl HGc Tryz.underlying59 rfl (by kernel_rfl) ?_)
  refine g2_ HWC.out HSc ?_
  intro v9 v9e w6 HM6 HE6 HB6 HS6
  obtain ⟨A9, c9, rfl, -, -⟩ := slice_open (bytesK.K_of_M HM6.out)
  obtain rfl := er_open_code (erK.K_of_M HE6.out)
  clear HM6 HE6 HWC HGc
  go_wp2_with (fail)
  refine b_ (awake14_calls _ HS6.out.env) HS6 ?_
  intro w7 HB7 HS7
  go_wp2_with (fail)
  refine b_ (bareD_calls 1 _) HS7 ?_
  intro w8 HB8 HS8
  go_wp2_with (fail)
  refine b_ (same_calls (.code 1) _ _ ⟨_, rfl, rfl⟩ HS8.out.env (.inr (by decide))) HS8 ?_
  intro w9 HB9 HS9
  go_wp2
  go_ret
  exact ⟨rfl, HS9.out.below⟩
theorem dnsmsgRefuses4 (w : World) (m : Msg) (A5 A6 A7 A8 : Option Addr) (c5 c6 c7 c8 : Nat) (hM : MsgC w m A5 A6 A7 A8) (hcap : MsgCap m c5 c6 c7 c8) (hw : m.fit) (a : Int) (hk : (IntKind.u64.wrap a).tmod 7 = 4) (b : Int) (hE : Env w) :
    Calls Tryz.prog 8 #[.agg (msgA m (.slice A5 m.qs.length c5) (.slice A6 m.an.length c6) (.slice A7 m.au.length c7) (.slice A8 m.ex.length c8)), .int .i64 a, .int .i64 b] w fun e w' => e = .returned (.bool true) ∧ Below w.heap.size w w' := by
  have hg := playMsg_good m (fun r hr => hw.rs r hr)
  have HP := Kp.mk (fun (W : World) (h : MsgC W m A5 A6 A7 A8) => playMsg_calls2 m A5 A6 A7 A8 c5 c6 c7 c8 W h hcap hw)
  obtain ⟨pm, hpm⟩ : ∃ pm, playMsg m = pm := ⟨_, rfl⟩
  rw [hpm] at hg HP
  have hfq : ∀ q ∈ pm.qs, q.name.length < 4294967281 := fun q hq => by have := hg.nm q hq; omega
  have hfr : ∀ r ∈ pm.all, r.Fit := fun r hr => by have := hg.rn r hr; exact ⟨by omega, by omega, by omega, (hg.ok r hr).2⟩
  have hln := hg.ln
  have hrq := hg.qs
  obtain ⟨id, rp, op, co, fl, qs, an, au, ex⟩ := m
  dsimp only at HP
  show Calls Tryz.prog 8 #[.agg #[.int .i64 id, .bool rp, .int .i64 op, .int .i64 co, .int .i64 fl, .slice A5 qs.length c5, .slice A6 an.length c6, .slice A7 au.length c7, .slice A8 ex.length c8], .int .i64 a, .int .i64 b] w fun e w' => e = .returned (.bool true) ∧ Below w.heap.size w w'
  have HS0 := Kp.mk (St.start hE)
  have HSB := Kp.mk ((St.start hE).alloc (.cells #[.int .i64 id, .bool rp, .int .i64 op, .int .i64 co, .int .i64 fl, .slice A5 qs.length c5, .slice A6 an.length c6, .slice A7 au.length c7, .slice A8 ex.length c8] 59))
  have Hg0 := Kp.mk (heap_new w (.cells #[.int .i64 id, .bool rp, .int .i64 op, .int .i64 co, .int .i64 fl, .slice A5 qs.length c5, .slice A6 an.length c6, .slice A7 au.length c7, .slice A8 ex.length c8] 59))
  have HM0 := Kp.mk (hM.below HSB.out.below)
  have HBAD := Kp.mk (bad_qs pm)
  obtain ⟨pi, pr, po, pc, pf, pq, pa, pu, pe⟩ := pm
  have hfa : ∀ r ∈ pa ++ pu ++ pe, r.Fit := hfr
  dsimp only at hfq hln hrq HBAD
  have HFQ := Kp.mk hfq
  have HFR := Kp.mk hfa
  clear hE hM hw hg hpm hfq hfr hfa hrq
  go_enter Tryz.func8, Tryz.ntmps8
  go_wp2_with (with_reducible refine ld_blk rfl 59 (.tmp 3) rfl w.heap.size rfl Hg0 Tryz.underlying59 rfl (by kernel_rfl) ?_)
  refine (HP.out _ HM0.out).mono ?_
  rintro e0 w1 ⟨B5, B6, B7, B8, d5, d6, d7, d8, s2, s3, rfl, o1, o2, o3, r5, r6, r7, r8, hB1⟩
  have hz0 : (w.alloc (.cells #[.int .i64 id, .bool rp, .int .i64 op, .int .i64 co, .int .i64 fl, .slice A5 qs.length c5, .slice A6 an.length c6, .slice A7 au.length c7, .slice A8 ex.length c8] 59)).heap.size = w.heap.size + 1 := by simp
  rw [hz0] at o1 r6 r7
  have Hg1 := Kp.mk ((hB1.block _ (heap_lt Hg0.out)).trans Hg0.out)
  have HS1 := Kp.mk (HSB.out.step hB1)
  have HL1 := Kp.mk HS1.out.below
  have HR5 := Kp.mk r5
  have HR6 := Kp.mk r6
  have HR7 := Kp.mk r7
  have HR8 := Kp.mk r8
  have HO1 : Kp (w.heap.size < s2 ∧ s2 ≤ s3 ∧ s3 ≤ w1.heap.size) := ⟨by omega⟩
  clear hB1 r5 r6 r7 r8 o1 o2 o3 hz0
  go_wp2_with (with_reducible refine st_blk (w0 := w) (base := w.heap.size) rfl 59 (.tmp 3) (.tmp 12) rfl rfl w.heap.size _ rfl rfl Hg1 (by kernel_rfl) (by kernel_rfl) (by kernel_rfl) HL1 (Nat.le_refl _) ?_)
  intro w2 Hg2 HO2 HB2 hs2
  have HW2 : Kp (RfW w w2 s2 s3 pi pr po pc pf (.slice B5 pq.length d5) (.slice B6 pa.length d6) (.slice B7 pu.length d7) (.slice B8 pe.length d8) pq pa pu pe) := ⟨by
    have h1 := HO1.out.1
    have h2 := HO1.out.2.1
    exact ⟨Hg2.out, R_stored HR5.out (by omega) HO2.out, R_stored HR6.out (by omega) HO2.out, R_stored HR7.out (by omega) HO2.out, R_stored HR8.out (by omega) HO2.out, h1, h2, by rw [hs2]; exact HO1.out.2.2, HB2.out⟩⟩
  clear hs2 HO2 HL1 HR5 HR6 HR7 HR8 Hg1 HB2 HO1 HS1 HSB HM0 HP Hg0
  have d := blk_cell HW2.out.blk 5
  have hs3 := HW2.out.o4
  go_wp2_with (at_builtin; (with_reducible refine gate_builtin (b := .append) (xs := #[.tmp 49, .tmp 51]) rfl ?_); go_must (refine app_qu (w0 := w2) (base := s3) (s := .tmp 49) (x := .tmp 51) (v := .slice B5 pq.length d5) rfl rfl pq ⟨[46], 0, 0⟩ rfl rfl HW2.out.r5 (Below.refl _ _) hs3 (by omega) ?_))
  intro v4 w4 HR4 HB4 hs4
  obtain ⟨zs, hzs⟩ : ∃ zs, pq ++ [(⟨[46], 0, 0⟩ : Qu)] = zs := ⟨_, rfl⟩
  rw [hzs] at HR4 HBAD
  have hzl : zs.length ≤ 5 := by rw [← hzs, List.length_append]; show pq.length + 1 ≤ 5; omega
  have HFZ : Kp (∀ q ∈ zs, q.name.length < 4294967281) := ⟨fun q hq => by
    rw [← hzs] at hq
    rcases List.mem_append.1 hq with hq | hq
    · exact HFQ.out q hq
    · rw [List.mem_singleton.1 hq]; decide⟩
  have HZL := Kp.mk hzl
  clear hzs hzl d hs3
  obtain ⟨A4, c4, rfl⟩ := Kd.R_slice HR4.out
  have HB4b := Kp.mk ((HB4.out.block _ (Nat.lt_of_lt_of_le HW2.out.o2 HW2.out.o3)).trans HW2.out.blk)
  have d := blk_cell HB4b.out 5
  have f := blk_frozen HB4b.out 5
  have HC0 := Kp.mk (HW2.out.qu HB4.out HR4.out)
  clear HW2 HB4b HR4 HB4 hs4 Hg2
  go_upto_region 23 with (fail)
  generalize w4.setCell ⟨w.heap.size, 5, none⟩ (.slice A4 zs.length c4) = WC at HC0 ⊢
  have HC := HC0
  clear HC0 d f
  obtain ⟨E5, E6, E7, E8, g5, g6, g7, g8, j5, j6, j7, j8, hmc, hmp⟩ := HC.out.rows
  have HSc : Kp (St w WC) := ⟨⟨HC.out.be, HS0.out.env.below HC.out.be⟩⟩
  have HGc : Kp (WC.heap[w.heap.size]? = some (.cells (msgA ⟨pi, pr, po, pc, pf, zs, pa, pu, pe⟩ (.slice E5 (List.length (zs : List Qu)) g5) (.slice E6 (List.length (pa : List Rec)) g6) (.slice E7 (List.length (pu : List Rec)) g7) (.slice E8 (List.length (pe : List Rec)) g8)) 59 (0, 0))) := ⟨by rw [← j5, ← j6, ← j7, ← j8]; exact HC.out.blk⟩
  have hwc := write_calls ⟨pi, pr, po, pc, pf, zs, pa, pu, pe⟩ E5 E6 E7 E8 g5 g6 g7 g8 WC [] (.code 1) HSc.out.env hmc.qs hmp.c5 hmc.an hmp.c6 hmc.au hmp.c7 hmc.ex hmp.c8 HFZ.out HFR.out (by dsimp only; omega) (by have := HZL.out; dsimp only; omega) HBAD.out
  have HWC := Kp.mk hwc
  clear hwc hmc hmp j5 j6 j7 j8 HC
  go_wp2_with (with_reducible refine ld_blk rfl 59 (.tmp 3) rfl w.heap.size rfl HGc Tryz.underlying59 rfl (by kernel_rfl) ?_)
  refine g2_ HWC.out HSc ?_
  intro v9 v9e w6 HM6 HE6 HB6 HS6
  obtain ⟨A9, c9, rfl, -, -⟩ := slice_open (bytesK.K_of_M HM6.out)
  obtain rfl := er_open_code (erK.K_of_M HE6.out)
  clear HM6 HE6 HWC HGc
  go_wp2_with (fail)
  refine b_ (awake14_calls _ HS6.out.env) HS6 ?_
  intro w7 HB7 HS7
  go_wp2_with (fail)
  refine b_ (bareD_calls 1 _) HS7 ?_
  intro w8 HB8 HS8
  go_wp2_with (fail)
  refine b_ (same_calls (.code 1) _ _ ⟨_, rfl, rfl⟩ HS8.out.env (.inr (by decide))) HS8 ?_
  intro w9 HB9 HS9
  go_wp2
  go_ret
  exact ⟨rfl, HS9.out.below⟩
theorem dnsmsgRefuses5 (w : World) (m : Msg) (A5 A6 A7 A8 : Option Addr) (c5 c6 c7 c8 : Nat) (hM : MsgC w m A5 A6 A7 A8) (hcap : MsgCap m c5 c6 c7 c8) (hw : m.fit) (a : Int) (hk : (IntKind.u64.wrap a).tmod 7 = 5) (b : Int) (hE : Env w) :
    Calls Tryz.prog 8 #[.agg (msgA m (.slice A5 m.qs.length c5) (.slice A6 m.an.length c6) (.slice A7 m.au.length c7) (.slice A8 m.ex.length c8)), .int .i64 a, .int .i64 b] w fun e w' => e = .returned (.bool true) ∧ Below w.heap.size w w' := by
  have hg := playMsg_good m (fun r hr => hw.rs r hr)
  have HP := Kp.mk (fun (W : World) (h : MsgC W m A5 A6 A7 A8) => playMsg_calls2 m A5 A6 A7 A8 c5 c6 c7 c8 W h hcap hw)
  obtain ⟨pm, hpm⟩ : ∃ pm, playMsg m = pm := ⟨_, rfl⟩
  rw [hpm] at hg HP
  have hfq : ∀ q ∈ pm.qs, q.name.length < 4294967281 := fun q hq => by have := hg.nm q hq; omega
  have hfr : ∀ r ∈ pm.all, r.Fit := fun r hr => by have := hg.rn r hr; exact ⟨by omega, by omega, by omega, (hg.ok r hr).2⟩
  have hln := hg.ln
  have hrq := hg.qs
  obtain ⟨id, rp, op, co, fl, qs, an, au, ex⟩ := m
  dsimp only at HP
  show Calls Tryz.prog 8 #[.agg #[.int .i64 id, .bool rp, .int .i64 op, .int .i64 co, .int .i64 fl, .slice A5 qs.length c5, .slice A6 an.length c6, .slice A7 au.length c7, .slice A8 ex.length c8], .int .i64 a, .int .i64 b] w fun e w' => e = .returned (.bool true) ∧ Below w.heap.size w w'
  have HS0 := Kp.mk (St.start hE)
  have HSB := Kp.mk ((St.start hE).alloc (.cells #[.int .i64 id, .bool rp, .int .i64 op, .int .i64 co, .int .i64 fl, .slice A5 qs.length c5, .slice A6 an.length c6, .slice A7 au.length c7, .slice A8 ex.length c8] 59))
  have Hg0 := Kp.mk (heap_new w (.cells #[.int .i64 id, .bool rp, .int .i64 op, .int .i64 co, .int .i64 fl, .slice A5 qs.length c5, .slice A6 an.length c6, .slice A7 au.length c7, .slice A8 ex.length c8] 59))
  have HM0 := Kp.mk (hM.below HSB.out.below)
  have HBAD := Kp.mk (bad_ex pm hrq)
  obtain ⟨pi, pr, po, pc, pf, pq, pa, pu, pe⟩ := pm
  have hfa : ∀ r ∈ pa ++ pu ++ pe, r.Fit := hfr
  dsimp only at hfq hln hrq HBAD
  have HFQ := Kp.mk hfq
  have HFR := Kp.mk hfa
  clear hE hM hw hg hpm hfq hfr hfa hrq
  go_enter Tryz.func8, Tryz.ntmps8
  go_wp2_with (with_reducible refine ld_blk rfl 59 (.tmp 3) rfl w.heap.size rfl Hg0 Tryz.underlying59 rfl (by kernel_rfl) ?_)
  refine (HP.out _ HM0.out).mono ?_
  rintro e0 w1 ⟨B5, B6, B7, B8, d5, d6, d7, d8, s2, s3, rfl, o1, o2, o3, r5, r6, r7, r8, hB1⟩
  have hz0 : (w.alloc (.cells #[.int .i64 id, .bool rp, .int .i64 op, .int .i64 co, .int .i64 fl, .slice A5 qs.length c5, .slice A6 an.length c6, .slice A7 au.length c7, .slice A8 ex.length c8] 59)).heap.size = w.heap.size + 1 := by simp
  rw [hz0] at o1 r6 r7
  have Hg1 := Kp.mk ((hB1.block _ (heap_lt Hg0.out)).trans Hg0.out)
  have HS1 := Kp.mk (HSB.out.step hB1)
  have HL1 := Kp.mk HS1.out.below
  have HR5 := Kp.mk r5
  have HR6 := Kp.mk r6
  have HR7 := Kp.mk r7
  have HR8 := Kp.mk r8
  have HO1 : Kp (w.heap.size < s2 ∧ s2 ≤ s3 ∧ s3 ≤ w1.heap.size) := ⟨by omega⟩
  clear hB1 r5 r6 r7 r8 o1 o2 o3 hz0
  go_wp2_with (with_reducible refine st_blk (w0 := w) (base := w.heap.size) rfl 59 (.tmp 3) (.tmp 12) rfl rfl w.heap.size _ rfl rfl Hg1 (by kernel_rfl) (by kernel_rfl) (by kernel_rfl) HL1 (Nat.le_refl _) ?_)
  intro w2 Hg2 HO2 HB2 hs2
  have HW2 : Kp (RfW w w2 s2 s3 pi pr po pc pf (.slice B5 pq.length d5) (.slice B6 pa.length d6) (.slice B7 pu.length d7) (.slice B8 pe.length d8) pq pa pu pe) := ⟨by
    have h1 := HO1.out.1
    have h2 := HO1.out.2.1
    exact ⟨Hg2.out, R_stored HR5.out (by omega) HO2.out, R_stored HR6.out (by omega) HO2.out, R_stored HR7.out (by omega) HO2.out, R_stored HR8.out (by omega) HO2.out, h1, h2, by rw [hs2]; exact HO1.out.2.2, HB2.out⟩⟩
  clear hs2 HO2 HL1 HR5 HR6 HR7 HR8 Hg1 HB2 HO1 HS1 HSB HM0 HP Hg0
  have d := blk_cell HW2.out.blk 8
  have hs2 : s2 ≤ w2.heap.size := Nat.le_trans HW2.out.o3 HW2.out.o4
  go_wp2_with (at_builtin; (with_reducible refine gate_builtin (b := .append) (xs := #[.tmp 57, .tmp 59]) rfl ?_); go_must (refine app_rec0 (w0 := w2) (base := s2) (s := .tmp 57) (x := .tmp 59) (v := .slice B8 pe.length d8) rfl rfl pe badR rfl rfl rfl (Kd.R_mono HW2.out.r8 (fun _ _ => trivial)) (Below.refl _ _) hs2 (by omega) ?_))
  intro v4 w4 HR4 HB4 HG4 hs4
  obtain ⟨zs, hzs⟩ : ∃ zs, pe ++ [badR] = zs := ⟨_, rfl⟩
  rw [hzs] at HR4 HBAD
  have hzl : zs.length ≤ 9 := by rw [← hzs, List.length_append]; show pe.length + 1 ≤ 9; omega
  have HFZ : Kp (∀ r ∈ pa ++ pu ++ zs, r.Fit) := ⟨fun r hr => by
    rw [← hzs, ← List.append_assoc] at hr
    rcases List.mem_append.1 hr with hr | hr
    · exact HFR.out r hr
    · rw [List.mem_singleton.1 hr]; exact ⟨by decide, by decide, by decide, by decide⟩⟩
  have HZL := Kp.mk hzl
  clear hzs hzl d hs2
  obtain ⟨A4, c4, rfl⟩ := Kd.R_slice HR4.out
  have HB4b := Kp.mk ((HB4.out.block _ HW2.out.o2).trans HW2.out.blk)
  have d := blk_cell HB4b.out 8
  have f := blk_frozen HB4b.out 8
  have HC0 := Kp.mk (HW2.out.re HB4.out HG4.out HR4.out)
  clear HW2 HB4b HR4 HB4 HG4 hs4 Hg2
  go_upto_region 23 with (fail)
  generalize w4.setCell ⟨w.heap.size, 8, none⟩ (.slice A4 zs.length c4) = WC at HC0 ⊢
  have HC := HC0
  clear HC0 d f
  obtain ⟨E5, E6, E7, E8, g5, g6, g7, g8, j5, j6, j7, j8, hmc, hmp⟩ := HC.out.rows
  have HSc : Kp (St w WC) := ⟨⟨HC.out.be, HS0.out.env.below HC.out.be⟩⟩
  have HGc : Kp (WC.heap[w.heap.size]? = some (.cells (msgA ⟨pi, pr, po, pc, pf, pq, pa, pu, zs⟩ (.slice E5 (List.length (pq : List Qu)) g5) (.slice E6 (List.length (pa : List Rec)) g6) (.slice E7 (List.length (pu : List Rec)) g7) (.slice E8 (List.length (zs : List Rec)) g8)) 59 (0, 0))) := ⟨by rw [← j5, ← j6, ← j7, ← j8]; exact HC.out.blk⟩
  have hwc := write_calls ⟨pi, pr, po, pc, pf, pq, pa, pu, zs⟩ E5 E6 E7 E8 g5 g6 g7 g8 WC [] (.code 1) HSc.out.env hmc.qs hmp.c5 hmc.an hmp.c6 hmc.au hmp.c7 hmc.ex hmp.c8 HFQ.out HFZ.out (by have := HZL.out; dsimp only; omega) (by dsimp only; omega) HBAD.out
  have HWC := Kp.mk hwc
  clear hwc hmc hmp j5 j6 j7 j8 HC
  go_wp2_with (with_reducible refine ld_blk rfl 59 (.tmp 3) rfl w.heap.size rfl HGc Tryz.underlying59 rfl (by kernel_rfl) ?_)
  refine g2_ HWC.out HSc ?_
  intro v9 v9e w6 HM6 HE6 HB6 HS6
  obtain ⟨A9, c9, rfl, -, -⟩ := slice_open (bytesK.K_of_M HM6.out)
  obtain rfl := er_open_code (erK.K_of_M HE6.out)
  clear HM6 HE6 HWC HGc
  go_wp2_with (fail)
  refine b_ (awake14_calls _ HS6.out.env) HS6 ?_
  intro w7 HB7 HS7
  go_wp2_with (fail)
  refine b_ (bareD_calls 1 _) HS7 ?_
  intro w8 HB8 HS8
  go_wp2_with (fail)
  refine b_ (same_calls (.code 1) _ _ ⟨_, rfl, rfl⟩ HS8.out.env (.inr (by decide))) HS8 ?_
  intro w9 HB9 HS9
  go_wp2
  go_ret
  exact ⟨rfl, HS9.out.below⟩
theorem dnsmsgRefuses6 (w : World) (m : Msg) (A5 A6 A7 A8 : Option Addr) (c5 c6 c7 c8 : Nat) (hM : MsgC w m A5 A6 A7 A8) (hcap : MsgCap m c5 c6 c7 c8) (hw : m.fit) (a : Int) (hk : (IntKind.u64.wrap a).tmod 7 = 6) (b : Int) (hE : Env w) :
    Calls Tryz.prog 8 #[.agg (msgA m (.slice A5 m.qs.length c5) (.slice A6 m.an.length c6) (.slice A7 m.au.length c7) (.slice A8 m.ex.length c8)), .int .i64 a, .int .i64 b] w fun e w' => e = .returned (.bool true) ∧ Below w.heap.size w w' := by
  have hg := playMsg_good m (fun r hr => hw.rs r hr)
  have HP := Kp.mk (fun (W : World) (h : MsgC W m A5 A6 A7 A8) => playMsg_calls2 m A5 A6 A7 A8 c5 c6 c7 c8 W h hcap hw)
  obtain ⟨pm, hpm⟩ : ∃ pm, playMsg m = pm := ⟨_, rfl⟩
  rw [hpm] at hg HP
  have hfq : ∀ q ∈ pm.qs, q.name.length < 4294967281 := fun q hq => by have := hg.nm q hq; omega
  have hfr : ∀ r ∈ pm.all, r.Fit := fun r hr => by have := hg.rn r hr; exact ⟨by omega, by omega, by omega, (hg.ok r hr).2⟩
  have hln := hg.ln
  have hrq := hg.qs
  obtain ⟨id, rp, op, co, fl, qs, an, au, ex⟩ := m
  dsimp only at HP
  show Calls Tryz.prog 8 #[.agg #[.int .i64 id, .bool rp, .int .i64 op, .int .i64 co, .int .i64 fl, .slice A5 qs.length c5, .slice A6 an.length c6, .slice A7 au.length c7, .slice A8 ex.length c8], .int .i64 a, .int .i64 b] w fun e w' => e = .returned (.bool true) ∧ Below w.heap.size w w'
  have HS0 := Kp.mk (St.start hE)
  have HSB := Kp.mk ((St.start hE).alloc (.cells #[.int .i64 id, .bool rp, .int .i64 op, .int .i64 co, .int .i64 fl, .slice A5 qs.length c5, .slice A6 an.length c6, .slice A7 au.length c7, .slice A8 ex.length c8] 59))
  have Hg0 := Kp.mk (heap_new w (.cells #[.int .i64 id, .bool rp, .int .i64 op, .int .i64 co, .int .i64 fl, .slice A5 qs.length c5, .slice A6 an.length c6, .slice A7 au.length c7, .slice A8 ex.length c8] 59))
  have HM0 := Kp.mk (hM.below HSB.out.below)
  obtain ⟨pi, pr, po, pc, pf, pq, pa, pu, pe⟩ := pm
  have hfa : ∀ r ∈ pa ++ pu ++ pe, r.Fit := hfr
  dsimp only at hfq hln hrq
  have HFQ := Kp.mk hfq
  have HFR := Kp.mk hfa
  clear hE hM hw hg hpm hfq hfr hfa hrq
  go_enter Tryz.func8, Tryz.ntmps8
  go_wp2_with (with_reducible refine ld_blk rfl 59 (.tmp 3) rfl w.heap.size rfl Hg0 Tryz.underlying59 rfl (by kernel_rfl) ?_)
  refine (HP.out _ HM0.out).mono ?_
  rintro e0 w1 ⟨B5, B6, B7, B8, d5, d6, d7, d8, s2, s3, rfl, o1, o2, o3, r5, r6, r7, r8, hB1⟩
  have hz0 : (w.alloc (.cells #[.int .i64 id, .bool rp, .int .i64 op, .int .i64 co, .int .i64 fl, .slice A5 qs.length c5, .slice A6 an.length c6, .slice A7 au.length c7, .slice A8 ex.length c8] 59)).heap.size = w.heap.size + 1 := by simp
  rw [hz0] at o1 r6 r7
  have Hg1 := Kp.mk ((hB1.block _ (heap_lt Hg0.out)).trans Hg0.out)
  have HS1 := Kp.mk (HSB.out.step hB1)
  have HL1 := Kp.mk HS1.out.below
  have HR5 := Kp.mk r5
  have HR6 := Kp.mk r6
  have HR7 := Kp.mk r7
  have HR8 := Kp.mk r8
  have HO1 : Kp (w.heap.size < s2 ∧ s2 ≤ s3 ∧ s3 ≤ w1.heap.size) := ⟨by omega⟩
  clear hB1 r5 r6 r7 r8 o1 o2 o3 hz0
  go_wp2_with (with_reducible refine st_blk (w0 := w) (base := w.heap.size) rfl 59 (.tmp 3) (.tmp 12) rfl rfl w.heap.size _ rfl rfl Hg1 (by kernel_rfl) (by kernel_rfl) (by kernel_rfl) HL1 (Nat.le_refl _) ?_)
  intro w2 Hg2 HO2 HB2 hs2
  have HW2 : Kp (RfW w w2 s2 s3 pi pr po pc pf (.slice B5 pq.length d5) (.slice B6 pa.length d6) (.slice B7 pu.length d7) (.slice B8 pe.length d8) pq pa pu pe) := ⟨by
    have h1 := HO1.out.1
    have h2 := HO1.out.2.1
    exact ⟨Hg2.out, R_stored HR5.out (by omega) HO2.out, R_stored HR6.out (by omega) HO2.out, R_stored HR7.out (by omega) HO2.out, R_stored HR8.out (by omega) HO2.out, h1, h2, by rw [hs2]; exact HO1.out.2.2, HB2.out⟩⟩
  clear hs2 HO2 HL1 HR5 HR6 HR7 HR8 Hg1 HB2 HO1 HS1 HSB HM0 HP Hg0
  obtain ⟨K, hK, hKe⟩ := umod b 10 (by decide) (by decide)
  have hKw : wrap64 ((IntKind.u64.wrap b).tmod 10) = (K : Int) := hKe
  obtain ⟨n, hn⟩ : ∃ n : Nat, 4 + K = n := ⟨_, rfl⟩
  have hni : (4 : Int) + (K : Int) = (n : Int) := by omega
  have hn4 : 4 ≤ n ∧ n ≤ 13 := by omega
  have hBW : Kp (writeM (bigM n) = ([], .code 4)) := ⟨big_write n hn4.1 hn4.2⟩
  obtain ⟨zs, hzs⟩ : ∃ zs, List.replicate 1000 (0 : Int) = zs := ⟨_, rfl⟩
  have hzl : zs.length = 1000 := by rw [← hzs]; exact List.length_replicate
  have hbg : bigR = ⟨[], 99, 0, 0, Ad.zero, [], zs⟩ := by rw [← hzs]; rfl
  obtain ⟨i0, hi0, hzz⟩ := Option.map_eq_some_iff.1 (show (Tryz.prog.info? 5).map (fun i => (i.zero, i.size, i.bytes)) = some (some (.int .u8 0), 1, 1) by kernel_rfl)
  simp only [Prod.mk.injEq] at hzz
  obtain ⟨hz0, hz1, hz2⟩ := hzz
  have hmk0 := fun w : World => run_makeSlice (P := Tryz.prog) w 22 5 i0 (.int .u8 0) Tryz.underlying22 hi0 hz0 .i64 .i64 1000 1000 (by decide) (by decide) (by rw [hz1]; decide) (by rw [hz2]; decide) (by decide)
  rw [hz1] at hmk0
  have hmc : madeCells (Value.int IntKind.u8 0).cells (1000 * 1) = (zs.map (Value.int .u8)).toArray := by
    rw [← hzs]
    exact made_zeros 1000
  have hmk : ∀ W : World, (Instr.makeSlice 22 (.int .i64 1000) (.int .i64 1000)).run Tryz.prog W = .ok (.slice (some ⟨W.heap.size, 0, none⟩) 1000 1000) (W.alloc (.cells (zs.map (Value.int .u8)).toArray 5)) := fun W => by
    rw [← hmc]
    exact hmk0 W
  have Hg2' := Kp.mk HW2.out.blk
  have HBE2 := Kp.mk HW2.out.be
  have HBG := Kp.mk hbg
  have HZL := Kp.mk hzl
  clear hmk0 hmc hzs hz0 hz1 hz2 hi0 HW2 Hg2 hzl hbg hn hKe
  go_wp2_with (with_reducible refine st_blk (w0 := w) (base := w.heap.size) rfl 59 (.tmp 3) (.tmp 16) rfl rfl w.heap.size _ rfl rfl Hg2' (by kernel_rfl) (by kernel_rfl) (by kernel_rfl) HBE2 (Nat.le_refl _) ?_)
  intro w3 Hg3 HO3 HB3 hs3
  have HB0 : Kp (BgW w w3 (.slice none 0 0) []) := ⟨⟨Hg3.out, Kd.R_nil _ _ _ _ _, HB3.out, heap_lt Hg3.out⟩⟩
  clear Hg3 HO3 HB3 hs3 Hg2' HBE2
  go_wp2_with (fail)
  go_loopw [8] (fun i wr => ∃ (k : Nat) (v6 : Value), k ≤ n ∧ i = .int .i64 k ∧ Kp (BgW w wr v6 (List.replicate k bigR))) (fun i _ => n - (intOf i).toNat)
  case atStart => exact ⟨0, _, Nat.zero_le _, rfl, HB0⟩
  case round =>
    obtain ⟨k, v6, hk, rfl, HW⟩ := hrel
    obtain ⟨A6, q6, rfl⟩ := Kd.R_slice HW.out.rr
    clear HB0
    by_cases hlt : k < n
    · have b1 : decide ((k : Int) < (n : Int)) = true := by simp; omega
      have hrs : List.replicate (k + 1) bigR = List.replicate k bigR ++ [bigR] := List.replicate_succ'
      have hrl : (List.replicate k bigR).length = k := List.length_replicate
      obtain ⟨rs, hrse⟩ : ∃ r, List.replicate k bigR = r := ⟨_, rfl⟩
      obtain ⟨rs', hrse'⟩ : ∃ r, List.replicate (k + 1) bigR = r := ⟨_, rfl⟩
      rw [hrse, hrse', HBG.out] at hrs
      rw [hrse] at hrl HW
      have HRS := Kp.mk hrs
      have HRE := Kp.mk hrse'
      have HLR : Kp ((rs.length + 1) * 96 ≤ 140737488355328) := ⟨by omega⟩
      have HWD := Kp.mk (HW.out.step (below_drew (Below.refl _ _)))
      have HWE := Kp.mk (HWD.out.step ((Below.refl wr.drew.heap.size wr.drew).alloc (Nat.le_refl _) (.cells (zs.map (Value.int .u8)).toArray 5)))
      have hlt1 := lit_bytes wr.drew wr.drew.heap.size zs (Nat.le_refl _) (by rw [HZL.out]; decide)
      rw [HZL.out] at hlt1
      have HLT := Kp.mk hlt1
      have HOL := Kp.mk (R_own_lt HWD.out.rr)
      have hws := HWD.out.sz
      clear hrs hrl hrse hrse' hlt1 HW
      go_wp2_with (fail)
      refine start_ (n := 8) (S := fun w' => w'.cell? ⟨w.heap.size, 6, none⟩ = some (.slice A6 rs.length q6)) (ds := [7]) #[false, false, false, false, false, false, false, false] (by kernel_rfl) rfl rfl (blk_cell HWD.out.blk 6) (fun hHeld => ?_)
      generalize wr.drew = wd at HWD HWE HLT HOL hws hHeld ⊢
      refine pure_ (i := 0) (N := some 27) (v := ?_) (a' := ?_) #[true, false, false, false, false, false, false, false] rfl rfl (by kernel_rfl) (fun _ _ _ h => h) (Or.inl ⟨by rfl, ?_⟩) ?_ ?_
      rotate_left
      · intro w'
        go_simp
        with_reducible rfl
      rotate_left
      · simp only [Act.put, List.setIfInBounds_toArray, List.set_cons_zero, List.set_cons_succ, i64_w, i32_w]
        rfl
      refine take_ (i := 1) (N := some 28) (v := ?_) (a' := ?_) #[true, true, false, false, false, false, false, false] rfl rfl (by kernel_rfl) (fun _ _ _ h => h) (Or.inl ⟨by rfl, ?_⟩) hHeld ?_ ?_
      rotate_left
      · intro w' z0
        go_simp
        with_reducible rfl
      rotate_left
      · simp only [Act.put, List.setIfInBounds_toArray, List.set_cons_zero, List.set_cons_succ, i64_w, i32_w]
        rfl
      refine one_ (i := 2) (N := some 29) #[true, true, true, false, false, false, false, false] rfl rfl (by kernel_rfl) (by decide) (fun K hK => ?_)
      refine value_ (w1 := ?_) (v := ?_) (by rfl) rfl ?_ ?_
      rotate_left 2
      · go_simp
        constructor
        · rfl
        · rfl
      refine hK.out _ _ (blk_cell HWE.out.blk 6) (fun hHeld => ?_)
      clear hK K
      refine norm_ (a' := ?_) ?_ ?_
      rotate_left
      · show Act.put _ (some 29) _ = _
        simp only [Act.put, List.setIfInBounds_toArray, List.set_cons_zero, List.set_cons_succ, i64_w, i32_w]
        rfl
      refine pure_ (i := 3) (N := some 30) (v := ?_) (a' := ?_) #[true, true, true, true, false, false, false, false] rfl rfl (by kernel_rfl) (fun _ _ _ h => h) (Or.inl ⟨by rfl, ?_⟩) ?_ ?_
      rotate_left
      · intro w'
        go_simp
        with_reducible rfl
      rotate_left
      · simp only [Act.put, List.setIfInBounds_toArray, List.set_cons_zero, List.set_cons_succ, i64_w, i32_w]
        rfl
      refine one_ (i := 4) (N := some 31) #[true, true, true, true, true, false, false, false] rfl rfl (by kernel_rfl) (by decide) (fun K hK => ?_)
      refine value_ (w1 := ?_) (v := ?_) (by rfl) rfl ?_ ?_
      rotate_left 2
      · go_simp
        constructor
        · rfl
        · rfl
      have HWF := Kp.mk (HWE.out.step ((Below.refl _ _).alloc (Nat.le_refl _) (.cells (recA ⟨[], 99, 0, 0, Ad.zero, [], zs⟩ (.slice (some ⟨wd.heap.size, 0, none⟩) 1000 1000)) 28)))
      refine hK.out _ _ (blk_cell HWF.out.blk 6) (fun hHeld => ?_)
      clear hK K
      refine norm_ (a' := ?_) ?_ ?_
      rotate_left
      · show Act.put _ (some 31) _ = _
        simp only [Act.put, List.setIfInBounds_toArray, List.set_cons_zero, List.set_cons_succ, i64_w, i32_w]
        rfl
      have hzw : (wd.alloc (.cells (zs.map (Value.int .u8)).toArray 5)).heap.size = wd.heap.size + 1 := by simp
      refine one_ (i := 5) (N := some 32) #[true, true, true, true, true, true, false, false] rfl rfl (by kernel_rfl) (by decide) (fun K hK => ?_)
      refine step_recD (w0 := wd.alloc (.cells (zs.map (Value.int .u8)).toArray 5)) (base := w.heap.size + 1) (by rfl) (s := .tmp 28) (x := .tmp 31) (v := .slice A6 rs.length q6) (by rfl) rs ⟨[], 99, 0, 0, Ad.zero, [], zs⟩ (.slice (some ⟨wd.heap.size, 0, none⟩) 1000 1000) wd.heap.size (by rfl) (by rw [hzw]; rfl) HLT.out hws HOL.out HWE.out.rr (Below.refl _ _) HWE.out.sz HLR.out ?_
      intro v1 wy HRy HBy hsy
      rw [← HRS.out] at HRy
      obtain ⟨A12, c12, rfl⟩ := Kd.R_slice HRy.out
      have HYB := Kp.mk ((HBy.out.block _ (Nat.lt_succ_self _)).trans HWE.out.blk)
      have HWy := Kp.mk (HWE.out.put HBy.out HRy.out hsy.out)
      refine hK.out _ _ (blk_cell HYB.out 6) (fun hHeld => ?_)
      clear hK K
      refine norm_ (a' := ?_) ?_ ?_
      rotate_left
      · show Act.put _ (some 32) _ = _
        simp only [Act.put, List.setIfInBounds_toArray, List.set_cons_zero, List.set_cons_succ, i64_w, i32_w]
        rfl
      refine pure_ (i := 6) (N := some 33) (v := ?_) (a' := ?_) #[true, true, true, true, true, true, true, false] rfl rfl (by kernel_rfl) (fun _ _ _ h => h) (Or.inl ⟨by rfl, ?_⟩) ?_ ?_
      rotate_left
      · intro w'
        go_simp
        with_reducible rfl
      rotate_left
      · simp only [Act.put, List.setIfInBounds_toArray, List.set_cons_zero, List.set_cons_succ, i64_w, i32_w]
        rfl
      refine last_ (i := 7) (N := none) #[true, true, true, true, true, true, true, true] rfl rfl (by kernel_rfl) (by decide) (fun K hK => ?_)
      have d8 := blk_cell HYB.out 6
      have f8 := blk_frozen HYB.out 6
      refine skip_ (w1 := ?_) (by rfl) rfl ?_ ?_
      rotate_left
      · go_simp
        rfl
      refine hK.out _ _ ?_
      clear hK K
      refine done_ (by kernel_rfl) ?_
      generalize wy.setCell ⟨w.heap.size, 6, none⟩ (.slice A12 rs'.length c12) = wz at HWy ⊢
      clear hzw d8 f8 hHeld HWD HWE HWF HRy HBy HYB hmk HLT HOL
      go_wp2
      refine ⟨⟨k + 1, _, by omega, by go_num, by rw [HRE.out]; exact HWy⟩, ?_⟩
      have hi1 : (intOf (Value.int .i64 ((k : Int) + 1))).toNat = k + 1 := by simp [intOf] <;> omega
      have hi2 : (intOf (Value.int .i64 (k : Int))).toNat = k := by simp [intOf]
      rw [hi1, hi2]
      omega
    · obtain rfl : k = n := by omega
      have b1 : decide ((k : Int) < (k : Int)) = false := by simp
      have hrl : (List.replicate k bigR).length = k := List.length_replicate
      have hfz : ∀ r ∈ List.replicate k bigR ++ [] ++ [], r.Fit := by
        intro r hr
        rw [List.append_nil, List.append_nil] at hr
        rw [List.eq_of_mem_replicate hr, HBG.out]
        exact ⟨by show (0 : Nat) < 4294967281; decide, by show (0 : Nat) < 4294967281; decide, by show zs.length ≤ 9223372036854775807; rw [HZL.out]; decide, by show (0 : Int) ≤ 0 ∧ (0 : Int) ≤ 4294967295; decide⟩
      have hbad : writeM ⟨0, false, 0, 0, 0, [], List.replicate k bigR, [], []⟩ = ([], .code 4) := hBW.out
      obtain ⟨zr, hzr⟩ : ∃ r, List.replicate k bigR = r := ⟨_, rfl⟩
      rw [hzr] at HW hfz hbad hrl
      have HBAD := Kp.mk hbad
      have HFZ := Kp.mk hfz
      have HRL := Kp.mk hrl
      have HC0 := Kp.mk (RfC.mk_ HW.out.blk (Kd.R_nil quK 30 wr 0 (fun _ => True)) HW.out.rr (Kd.R_nil recK 28 wr 0 (fun _ => True)) (Kd.R_nil recK 28 wr 0 (fun _ => True)) HW.out.be)
      have hk13 := hn4.2
      clear hrl hfz hbad hzr HW hBW hmk hlt hn4 hni hKw
      go_upto_region 23 with (fail)
      generalize wr = WC at HC0 ⊢
      have HC := HC0
      clear HC0
      obtain ⟨E5, E6, E7, E8, g5, g6, g7, g8, j5, j6, j7, j8, hmc, hmp⟩ := HC.out.rows
      have HSc : Kp (St w WC) := ⟨⟨HC.out.be, HS0.out.env.below HC.out.be⟩⟩
      have HGc : Kp (WC.heap[w.heap.size]? = some (.cells (msgA ⟨0, false, 0, 0, 0, [], zr, [], []⟩ (.slice E5 (List.length ([] : List Qu)) g5) (.slice E6 (List.length (zr : List Rec)) g6) (.slice E7 (List.length ([] : List Rec)) g7) (.slice E8 (List.length ([] : List Rec)) g8)) 59 (0, 0))) := ⟨by rw [← j5, ← j6, ← j7, ← j8]; exact HC.out.blk⟩
      have hwc := write_calls ⟨0, false, 0, 0, 0, [], zr, [], []⟩ E5 E6 E7 E8 g5 g6 g7 g8 WC [] (.code 4) HSc.out.env hmc.qs hmp.c5 hmc.an hmp.c6 hmc.au hmp.c7 hmc.ex hmp.c8 (fun q hq => by cases hq) HFZ.out (by have := HRL.out; dsimp only; simp only [List.length_nil]; omega) (by show (0 : Nat) ≤ 140737488355328; decide) HBAD.out
      have HWC := Kp.mk hwc
      clear hwc hmc hmp j5 j6 j7 j8 HC
      go_wp2_with (with_reducible refine ld_blk rfl 59 (.tmp 3) rfl w.heap.size rfl HGc Tryz.underlying59 rfl (by kernel_rfl) ?_)
      refine g2_ HWC.out HSc ?_
      intro v9 v9e w6 HM6 HE6 HB6 HS6
      obtain ⟨A9, c9, rfl, -, -⟩ := slice_open (bytesK.K_of_M HM6.out)
      obtain rfl := er_open_code (erK.K_of_M HE6.out)
      clear HM6 HE6 HWC HGc
      go_wp2_with (fail)
      refine b_ (awake14_calls _ HS6.out.env) HS6 ?_
      intro w7 HB7 HS7
      go_wp2_with (fail)
      refine b_ (bareD_calls 4 _) HS7 ?_
      intro w8 HB8 HS8
      go_wp2_with (fail)
      refine b_ (same_calls (.code 4) _ _ ⟨_, rfl, rfl⟩ HS8.out.env (.inr (by decide))) HS8 ?_
      intro w9 HB9 HS9
      go_wp2
      go_ret
      exact ⟨rfl, HS9.out.below⟩
theorem dnsmsgRefuses_walk (w : World) (m : Msg) (A5 A6 A7 A8 : Option Addr) (c5 c6 c7 c8 : Nat) (hM : MsgC w m A5 A6 A7 A8) (hcap : MsgCap m c5 c6 c7 c8) (hw : m.fit) (a : Int) (ha1 : -9223372036854775808 ≤ a) (ha2 : a ≤ 9223372036854775807) (b : Int) (hb1 : -9223372036854775808 ≤ b) (hb2 : b ≤ 9223372036854775807) (hE : Env w) :
    Calls Tryz.prog 8 #[.agg (msgA m (.slice A5 m.qs.length c5) (.slice A6 m.an.length c6) (.slice A7 m.au.length c7) (.slice A8 m.ex.length c8)), .int .i64 a, .int .i64 b] w fun e w' => e = .returned (.bool true) ∧ Below w.heap.size w w' := by
  obtain ⟨N, hN, hk⟩ := umod_rawD a 7 (by decide)
  have hN' : N < 7 := by omega
  match N, hN' with
  | 0, _ => exact dnsmsgRefuses0 w m A5 A6 A7 A8 c5 c6 c7 c8 hM hcap hw a hk b hE
  | 1, _ => exact dnsmsgRefuses1 w m A5 A6 A7 A8 c5 c6 c7 c8 hM hcap hw a hk b hE
  | 2, _ => exact dnsmsgRefuses2 w m A5 A6 A7 A8 c5 c6 c7 c8 hM hcap hw a hk b hE
  | 3, _ => exact dnsmsgRefuses3 w m A5 A6 A7 A8 c5 c6 c7 c8 hM hcap hw a hk b hE
  | 4, _ => exact dnsmsgRefuses4 w m A5 A6 A7 A8 c5 c6 c7 c8 hM hcap hw a hk b hE
  | 5, _ => exact dnsmsgRefuses5 w m A5 A6 A7 A8 c5 c6 c7 c8 hM hcap hw a hk b hE
  | 6, _ => exact dnsmsgRefuses6 w m A5 A6 A7 A8 c5 c6 c7 c8 hM hcap hw a hk b hE
end Go.Proofs.YtlkneoednkhleaaGreatDoor
