/-
  The law DnsmsgCompressed: what lies in memory as the message and what is wanted are made.
-/
import Derived.Test.YtlkneoednkhleaaGreatDoorZDcA
import Derived.Test.YtlkneoednkhleaaGreatDoorZSameMsg
import Derived.Test.YtlkneoednkhleaaGreatDoorGt
namespace Go.Proofs.YtlkneoednkhleaaGreatDoor
open Go.RowKit Go.Proofs.YtlkneoednkhleaaGreatDoorW.PrintWords
set_option linter.unusedVariables false
set_option linter.unusedSimpArgs false
set_option maxRecDepth 100000
set_option maxHeartbeats 2000000

def v4B (d : Int) : Nat → Int
  | 0 => 1
  | 1 => 2
  | 2 => 3
  | 3 => d
  | _ => 0
/-- A record that is wanted. -/
def wantR (s : L) (t i : Int) : Rec := ⟨s, 1, 1, t, ⟨false, v4B i⟩, [], []⟩
def wantM (s : L) (t : Int) (is : List Int) : Msg := ⟨9, true, 0, 0, 0, [⟨s, 1, 1⟩], is.map (wantR s t), [], []⟩
theorem ptr_like (s : L) (t i : Int) : (ptrG s t i).Like (wantR s t i) := ⟨rfl, rfl, rfl, rfl, rfl, rfl, rfl, rfl⟩
theorem map_getD {α β : Type} (f : α → β) (z : α) (y : β) (l : List α) (k : Nat) (hk : k < l.length) : (l.map f).getD k y = f (l.getD k z) := by
  rw [List.getD_eq_getElem?_getD, List.getD_eq_getElem?_getD, List.getElem?_map, List.getElem?_eq_getElem hk]
  rfl
theorem want_like (s : L) (t : Int) (is : List Int) : (ptrM s t is).Like (wantM s t is) :=
  ⟨rfl, rfl, rfl, rfl, rfl, rfl, by simp [ptrM, wantM], rfl, rfl, fun k hk => by
    have hk' : k < is.length := by simpa [ptrM] using hk
    show ((is.map (ptrG s t)).getD k Rec.zero).Like ((is.map (wantR s t)).getD k Rec.zero)
    rw [map_getD _ 0 _ _ _ hk', map_getD _ 0 _ _ _ hk']
    exact ptr_like _ _ _, fun k hk => absurd hk (Nat.not_lt_zero _), fun k hk => absurd hk (Nat.not_lt_zero _)⟩
/-- The bytes ahead of the records. -/
def headB (s : L) (n : Int) : List Int := [0, 9, 128, 0, 0, 1] ++ be16 n ++ [0, 0, 0, 0] ++ (nameW s ++ [0, 1, 0, 1])
def isN (k : Nat) : List Int := (List.range k).map Int.ofNat
theorem isN_succ (k : Nat) : isN (k + 1) = isN k ++ [(k : Int)] := by unfold isN; rw [List.range_succ, List.map_append]; rfl
theorem isN_len (k : Nat) : (isN k).length = k := by simp [isN]
def bytsN (s : L) (t n : Int) (k : Nat) : List Int := headB s n ++ ((isN k).map (ptrR t)).flatten
theorem bytsN_succ (s : L) (t n : Int) (k : Nat) : bytsN s t n (k + 1) = bytsN s t n k ++ ptrR t k := by
  unfold bytsN
  rw [isN_succ, List.map_append, List.flatten_append, List.append_assoc]
  simp
theorem bytsN_ptr (s : L) (t : Int) (N : Nat) : bytsN s t N N = ptrB s t (isN N) := by
  unfold bytsN ptrB headB
  rw [isN_len]
theorem bytsN_len (s : L) (t n : Int) (k : Nat) (hs : s.length ≤ 60) : (bytsN s t n k).length ≤ 90 + 16 * k := by
  have h1 := nameW_leD s
  induction k with
  | zero =>
    unfold bytsN headB isN
    simp only [List.length_append, List.range_zero, List.map_nil, List.flatten_nil, List.length_nil]
    show 6 + 2 + 4 + ((nameW s).length + 4) + 0 ≤ _
    omega
  | succ k ih =>
    rw [bytsN_succ, List.length_append]
    show _ + 16 ≤ _
    omega
theorem bytsN_byts (s : L) (hs : rightL s = true) (t : Int) (ht0 : 0 ≤ t) (ht1 : t ≤ 4294967295) (N : Nat) (hN : N ≤ 20) (k : Nat) (hk : k ≤ N) : Byts (bytsN s t N k) := by
  induction k with
  | zero =>
    unfold bytsN headB
    refine byts_app (byts_app (byts_app (byts_app (fun x hx => ?_) (byts_be16 (by omega) (by omega))) (fun x hx => ?_)) (byts_app (byts_name s hs) (fun x hx => ?_))) (fun x hx => by simp [isN] at hx)
    · simp only [List.mem_cons, List.not_mem_nil, or_false] at hx
      omega
    · simp only [List.mem_cons, List.not_mem_nil, or_false] at hx
      omega
    · simp only [List.mem_cons, List.not_mem_nil, or_false] at hx
      omega
  | succ k ih =>
    rw [bytsN_succ]
    refine byts_app (ih (by omega)) ?_
    unfold ptrR
    refine byts_app (fun x hx => ?_) (byts_app (byts_be32 ht0 ht1) (fun x hx => ?_))
    · simp only [List.mem_cons, List.not_mem_nil, or_false] at hx
      omega
    · simp only [List.mem_append, List.mem_cons, List.not_mem_nil, or_false] at hx
      omega
/-- In memory. -/
structure CW (w W : World) (gm gq : Nat) (s : L) (v9 v6 : Value) (bs : List Int) (rs : List Rec) : Prop where
  st : St w W
  env : Env w
  blk : W.heap[gm]? = some (.cells #[.int .i64 9, .bool true, .int .i64 0, .int .i64 0, .int .i64 0, .slice (some ⟨gq, 0, none⟩) 1 1, v6, .slice none 0 0, .slice none 0 0] 59 (0, 0))
  qb : W.heap[gq]? = some (.cells #[.string (mkB s), .int .i64 1, .int .i64 1] 30 (0, 0))
  rb : (Kd.int .u8).R 5 W w.heap.size (fun k => v9.ownBlock = some k) v9 bs
  rr : recK.R 28 W w.heap.size (fun k => v9.ownBlock ≠ some k) v6 rs
  gm_le : w.heap.size ≤ gm
  ne : gq ≠ gm
section
variable {w W W' : World} {gm gq : Nat} {s : L} {v9 v6 : Value} {bs : List Int} {rs : List Rec}
theorem CW.step (h : CW w W gm gq s v9 v6 bs rs) (hb : Below W.heap.size W W') : CW w W' gm gq s v9 v6 bs rs :=
  ⟨h.st.step hb, h.env, (hb.block _ (heap_lt h.blk)).trans h.blk, (hb.block _ (heap_lt h.qb)).trans h.qb, Kd.R_below h.rb hb, Kd.R_below h.rr hb, h.gm_le, h.ne⟩
/-- More bytes. -/
theorem CW.bytes (h : CW w W gm gq s v9 v6 bs rs) (hg : W.grownBy W' v9.ownBlock) {v' : Value} {bs' : List Int} (hR : (Kd.int .u8).R 5 W' w.heap.size (fun _ => True) v' bs') (ho : v'.ownBlock = v9.ownBlock ∨ ∃ b, v'.ownBlock = some b ∧ W.heap.size ≤ b) (hB : Below w.heap.size w W') : CW w W' gm gq s v' v6 bs' rs := by
  have hrr := Kd.R_grown (Kd.R_bound h.rr) hg (fun k hk e => hk.1 e.symm)
  refine ⟨⟨hB, h.env.below hB⟩, h.env, (hg.block _ (heap_lt h.blk) (Kd.R_ne h.rb h.blk (by decide))).trans h.blk, (hg.block _ (heap_lt h.qb) (Kd.R_ne h.rb h.qb (by decide))).trans h.qb, Kd.R_of_own (Kd.own_of_R hR) (fun k hk => hk), Kd.R_mono hrr (fun k hk => ?_), h.gm_le, h.ne⟩
  rcases ho with e | ⟨b, e, hb⟩
  · rw [e]; exact hk.1
  · rw [e]
    intro e2
    injection e2 with e2
    have := hk.2.2.1
    omega
/-- One record more; the message is written anew. -/
theorem CW.more (h : CW w W gm gq s v9 v6 bs rs) (hg : W.grownBy W' v6.ownBlock) {v' : Value} {rs' : List Rec} (hR : recK.R 28 W' w.heap.size (fun k => v9.ownBlock ≠ some k) v' rs') (hB : Below w.heap.size w W') :
    CW w (W'.setCell ⟨gm, 6, none⟩ v') gm gq s v9 v' bs rs' := by
  have hb1 : Below w.heap.size w (W'.setCell ⟨gm, 6, none⟩ v') := hB.setCell (p := ⟨gm, 6, none⟩) h.gm_le v'
  have hblk := (hg.block _ (heap_lt h.blk) (Kd.R_ne h.rr h.blk (by decide))).trans h.blk
  have hrb := Kd.R_grown h.rb hg (fun k hk e => h.rr.1 k e.symm hk)
  exact ⟨⟨hb1, h.env.below hb1⟩, h.env, blk_put hblk 6 v' rfl, (Below.heap_setCell W' ⟨gm, 6, none⟩ v' _ h.ne).trans ((hg.block _ (heap_lt h.qb) (Kd.R_ne h.rr h.qb (by decide))).trans h.qb), Kd.R_set hrb hblk (by decide) 6 v', Kd.R_set hR hblk (by decide) 6 v', h.gm_le, h.ne⟩
end
section
variable {ops : Array Oper} {rest : List Oper} {o : Oper} {a : Act} {Q : Exit → Act → World → Prop} {w0 W : World} {base : Nat} {v : Value} {s x : Operand}
/-- Bytes behind bytes; what else is told of it. -/
theorem app_bytesX (hgd : o.guard = none) (ho : o.op = .call { callee := .builtin .append, args := #[s, x], argTypes := #[22, 22] })
    (xs ys : List Int) (A : Option Addr) (m c : Nat) (hs : a.eval s = v) (hx : a.eval x = .slice A m c) (HO : (Kd.int .u8).R 5 W base (fun _ => True) v xs) (HR : (Kd.int .u8).C W A m ys) (HB : Below base w0 W) (hbase : base ≤ W.heap.size) (hl : xs.length + m ≤ 140737488355328)
    (h : ∀ v1 w1, Kp ((Kd.int .u8).R 5 w1 base (fun _ => True) v1 (xs ++ ys)) → Kp (Below base w0 w1) → Kp (W.grownBy w1 v.ownBlock) → Kp (v1.ownBlock = v.ownBlock ∨ ∃ b, v1.ownBlock = some b ∧ W.heap.size ≤ b) → wpList Tryz.prog ops Q rest (a.put o.dst v1) w1) :
    wpList Tryz.prog ops Q (o :: rest) a W :=
  Kd.R_append_rows (w0 := w0) (Kd.int .u8) base hgd s x 22 5 (.int .u8 0) 1 ho Tryz.underlying22 (by kernel_rfl) rfl (by decide) (by decide) v xs ys A m c (fun _ => True) (fun _ => False) hs hx HO HR (fun _ _ h => h) (fun _ h => h.elim) (fun _ _ => trivial) HB hbase (by omega)
    (fun v1 w1 h1 h2 h3 h4 => h v1 w1 ⟨h1⟩ ⟨h2⟩ ⟨h3⟩ ⟨h4⟩)
/-- One record without data behind some, at a step of a region that draws its order. -/
theorem step_rec0 {K : Act → World → Prop} {E : Prop} (hgd : o.guard = none) (ho : o.op = .call { callee := .builtin .append, args := #[s, x], argTypes := #[57, 57] })
    (ok : Nat → Prop) (xs : List Rec) (p : Rec) (hp : p.data = []) (hs : a.eval s = v) (hx : a.eval x = .slice (some ⟨W.heap.size, 0, none⟩) 1 1) (HO : recK.R 28 W base ok v xs) (hfresh : ∀ k, W.heap.size ≤ k → ok k) (HB : Below base w0 W) (hbase : base ≤ W.heap.size) (hl : (xs.length + 1) * 96 ≤ 140737488355328)
    (h : ∀ v1 w1, Kp (recK.R 28 w1 base ok v1 (xs ++ [p])) → Kp (Below base w0 w1) → Kp (W.grownBy w1 v.ownBlock) → Kp (base ≤ w1.heap.size) → K (a.put o.dst v1) w1) :
    if Region.wanted o (yielded ops a.tmps) = true then Oper.wp Tryz.prog o a (W.alloc (.cells (recA p (.slice none 0 0)) 28)) K Q else E := by
  have hw : Region.wanted o (yielded ops a.tmps) = true := by simp [Region.wanted, hgd]
  have hm : recK.M W base (fun _ => False) p (recA p (.slice none 0 0)).toList := recK_M (by rw [hp]; exact Kd.R_nil _ _ _ _ _)
  have := Kd.R_append_step (P := Tryz.prog) (ops := ops) (o := o) (a := a) (Kc := K) (Q := Q) (w0 := w0) recK base hw s x 57 28 (.agg #[.string ⟨#[]⟩, .int .i64 0, .int .i64 0, .int .u32 0, .bool false, .int .u8 0, .int .u8 0, .int .u8 0, .int .u8 0, .int .u8 0, .int .u8 0, .int .u8 0, .int .u8 0, .int .u8 0, .int .u8 0, .int .u8 0, .int .u8 0, .int .u8 0, .int .u8 0, .int .u8 0, .int .u8 0, .string ⟨#[]⟩, .slice none 0 0]) 96 ho Tryz.underlying57 (by kernel_rfl) rfl (by decide) (by decide) v xs p (recA p (.slice none 0 0)).toList ok (fun _ => False) hs hx hm (fun _ h => h.elim) hfresh HO HB hbase hl
    (fun v1 w1 h1 h2 h3 _ => h v1 w1 ⟨h1⟩ ⟨h2⟩ ⟨h3⟩ ⟨Nat.le_trans hbase h3.size⟩)
  rw [if_pos hw] at this ⊢
  exact this
end
theorem v4_calls (d : Int) (w : World) : Calls Tryz.prog 38 #[.int .u8 1, .int .u8 2, .int .u8 3, .int .u8 d] w fun e w' => e = .returned (.agg #[.bool false, .int .u8 1, .int .u8 2, .int .u8 3, .int .u8 d, .int .u8 0, .int .u8 0, .int .u8 0, .int .u8 0, .int .u8 0, .int .u8 0, .int .u8 0, .int .u8 0, .int .u8 0, .int .u8 0, .int .u8 0, .int .u8 0]) ∧ Below w.heap.size w w' := by
  go_enter Tryz.func38, Tryz.ntmps38
  go_wp2
  go_returns
  exact ⟨rfl, (Below.refl _ _).alloc (Nat.le_refl _) _⟩
/-- One question in a block of its own. -/
theorem quC_one {W : World} {gq : Nat} {s : L} (h : W.heap[gq]? = some (.cells #[.string (mkB s), .int .i64 1, .int .i64 1] 30 (0, 0))) : quK.C W (some ⟨gq, 0, none⟩) 1 [⟨s, 1, 1⟩] := by
  refine ⟨rfl, by decide, fun _ => ⟨_, rfl, fun j p hp => ?_⟩⟩
  have hj : j = 0 := by
    have := (List.getElem?_eq_some_iff.1 hp).1
    simp at this
    exact this
  subst hj
  obtain rfl : (⟨s, 1, 1⟩ : Qu) = p := by simpa using hp
  refine ⟨_, rfl, quK_open.2 rfl, fun i u hi => ?_⟩
  have e : (⟨gq, 0, none⟩ : Addr).add (0 * quK.sz + i) = ⟨gq, i, none⟩ := by rw [Nat.zero_mul, Nat.zero_add]; unfold Addr.add; split <;> simp_all
  rw [e, blk_cell h i]
  rw [List.getElem?_toArray]
  exact hi
end Go.Proofs.YtlkneoednkhleaaGreatDoor
