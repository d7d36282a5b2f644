/-
  The statements' own helper: same.Message, at two that are alike.
-/
import Derived.Test.YtlkneoednkhleaaGreatDoorGu
import Derived.Test.YtlkneoednkhleaaGreatDoorGs
import Derived.StillTailTactics
namespace Go.Proofs.YtlkneoednkhleaaGreatDoor
open Go.RowKit Go.Proofs.YtlkneoednkhleaaGreatDoorW.PrintWords
set_option linter.unusedVariables false
set_option linter.unusedSimpArgs false
set_option maxRecDepth 100000
set_option maxHeartbeats 2000000

/-- A struct that is loaded out of the midst of a block, ahead of a region's tail. -/
theorem still_load_mid {P : Program} {ops : Array Oper} {rest : List Oper} {op : Oper} {a : Act} {w : World} {Q : Act → Prop} (hgd : op.guard = none) (ty : TypeId) (x : Operand) (ho : op.op = .load ty x)
    (b o : Nat) (hx : a.eval x = .pointer (some ⟨b, o, none⟩)) (cs : List Value) (d : TypeDesc) (hc : w.rangeAt b o cs) (hu : P.underlying ty = some d) (hd : d.isRow = true) (hi : (P.info? ty).map (·.size) = some cs.length)
    (h : wpStill P ops w Q rest (a.put op.dst (.agg cs.toArray))) : wpStill P ops w Q (op :: rest) a :=
  wpStill_step fun K hK => by
    have hw : Region.wanted op (yielded ops a.tmps) = true := by simp [Region.wanted, hgd]
    rw [if_pos hw]
    unfold Oper.still execOp
    simp only [ho, hx, Instr.loadAt, Instr.sureAddr, Sem.run_bind, Sem.run_pure, Result.andThen_ok, run_loadVar_mid w b o ty cs d hc hu hd hi, Oper.stillUpon_value]
    exact hK _ h
/-- Two records alike. -/
structure Rec.Like (r s : Rec) : Prop where
  name : r.name = s.name
  typ : r.typ = s.typ
  cls : r.cls = s.cls
  ttl : r.ttl = s.ttl
  v6 : r.ad.v6 = s.ad.v6
  l : r.ad.l = s.ad.l
  tgt : r.tgt = s.tgt
  data : r.data = s.data
theorem Rec.Like.refl (r : Rec) : r.Like r := ⟨rfl, rfl, rfl, rfl, rfl, rfl, rfl, rfl⟩
/-- A cell that is there lies at a block's place. -/
theorem cell_flat {w : World} {ad : Addr} {u : Value} (h : w.cell? ad = some u) : ad = ⟨ad.block, ad.off, none⟩ := by
  obtain ⟨b, o, s⟩ := ad
  cases s with
  | none => rfl
  | some s =>
    unfold World.cell? at h
    split at h
    · rw [if_pos (by rfl)] at h; cases h
    · cases h
/-- A row that holds something begins at a block's place. -/
theorem flat_C {α : Type} {d : Kd α} {w : World} {A : Option Addr} {n : Nat} {xs : List α} (z : α) (h : d.C w A n xs) (hn : 0 < n) (hz : 0 < d.sz) : ∃ g o, A = some ⟨g, o, none⟩ := by
  obtain ⟨ad, cs, e, hl, -, hcell⟩ := Kd.C_get h z 0 (by omega) (by omega)
  cases cs with
  | nil => simp at hl; omega
  | cons u us =>
    have h1 := hcell 0 u rfl
    have h2 : ad.add ((0 : Int).toNat * d.sz + 0) = ad := by simp [Addr.add]
    rw [h2] at h1
    exact ⟨ad.block, ad.off, by rw [e, ← cell_flat h1]⟩
theorem sameRecL_calls (r s : Rec) (hl : r.Like s) (A A' : Option Addr) (c c' : Nat) (w : World) (h : (Kd.int .u8).C w A r.data.length r.data) (hc : r.data.length ≤ c) (h' : (Kd.int .u8).C w A' s.data.length s.data) (hc' : s.data.length ≤ c') :
    Calls Tryz.prog 20 #[.agg (recA r (.slice A r.data.length c)), .agg (recA s (.slice A' s.data.length c'))] w fun e w' => e = .returned (.bool true) ∧ Below w.heap.size w w' := by
  obtain ⟨rn, rt, rc, rl, ⟨v, b⟩, tg, d⟩ := r
  obtain ⟨sn, st, sc, sl, ⟨v', b'⟩, tg', d'⟩ := s
  obtain ⟨h1, h2, h3, h4, h5, h6, h7, h8⟩ := hl
  dsimp only at h1 h2 h3 h4 h5 h7 h8
  subst h1 h2 h3 h4 h5 h7 h8
  exact sameRec_calls rn rt rc rl v b b' tg d A A' c c' w (by have h9 : [b 0, b 1, b 2, b 3, b 4, b 5, b 6, b 7, b 8, b 9, b 10, b 11, b 12, b 13, b 14, b 15] = [b' 0, b' 1, b' 2, b' 3, b' 4, b' 5, b' 6, b' 7, b' 8, b' 9, b' 10, b' 11, b' 12, b' 13, b' 14, b' 15] := h6; rw [h9]; exact eq16_self _) h hc h' hc'
/-- A record that is read out of a row. -/
theorem at_rec {w : World} {A : Option Addr} {n : Nat} {xs : List Rec} (h : recK.C w A n xs) (k : Nat) (hk : k < n) :
    ∃ g o Ar cr, A = some ⟨g, o, none⟩ ∧ w.rangeAt g (o + k * 23) (recA (xs.getD k Rec.zero) (.slice Ar (xs.getD k Rec.zero).data.length cr)).toList ∧ (xs.getD k Rec.zero).data.length ≤ cr ∧ (Kd.int .u8).C w Ar (xs.getD k Rec.zero).data.length (xs.getD k Rec.zero).data := by
  obtain ⟨ad, cs, e, -, hK, hcell⟩ := Kd.C_get h Rec.zero (k : Int) (by omega) (by omega)
  rw [Int.toNat_natCast] at hK hcell
  obtain ⟨g, o, hA⟩ := flat_C Rec.zero h (by omega) (by decide)
  obtain rfl : ad = ⟨g, o, none⟩ := Option.some.inj (e.symm.trans hA)
  obtain ⟨Ar, cr, rfl, hd, hC⟩ := recK_open hK
  refine ⟨g, o, Ar, cr, e, fun j v hj => ?_, hd, hC⟩
  have h1 := hcell j v hj
  have e23 : recK.sz = 23 := rfl
  rw [e23, add_at] at h1
  rw [Nat.add_assoc]
  exact h1
theorem sameRs_calls (A B : Option Addr) (c d : Nat) (xs ys : List Rec) (w : World) (h : recK.C w A xs.length xs) (h2 : recK.C w B ys.length ys) (hlen : xs.length = ys.length) (hlk : ∀ k, k < xs.length → (xs.getD k Rec.zero).Like (ys.getD k Rec.zero)) :
    Calls Tryz.prog 71 #[.slice A xs.length c, .slice B ys.length d, .func (.func 20) #[] #[]] w fun e w' => e = .returned (.bool true) ∧ Below w.heap.size w w' := by
  have hm := (C_len h).2
  rw [← hlen] at h2 ⊢
  have HC := Kp.mk h
  have HD := Kp.mk h2
  have HL := Kp.mk hlk
  clear h h2 hlk hlen
  go_enter Tryz.func71, Tryz.ntmps71
  go_wp2_with (fail)
  go_loopw [7] (fun i wr => ∃ k : Nat, k ≤ xs.length ∧ i = .int .i64 k ∧ Kp (Below w.heap.size w wr)) (fun i _ => xs.length - (intOf i).toNat)
  case atStart => exact ⟨0, Nat.zero_le _, rfl, ⟨Below.refl _ _⟩⟩
  case round =>
    obtain ⟨k, hk, rfl, HW⟩ := hrel
    by_cases hlt : k < xs.length
    · obtain ⟨g, o, Ar, cr, rfl, r1, r2, r3⟩ := at_rec (Kd.C_below HC.out HW.out) k hlt
      obtain ⟨g', o', Br, dr, rfl, s1, s2, s3⟩ := at_rec (Kd.C_below HD.out HW.out) k hlt
      have hlk := HL.out k hlt
      obtain ⟨r, hr⟩ : ∃ r, xs.getD k Rec.zero = r := ⟨_, rfl⟩
      obtain ⟨s, hs⟩ : ∃ s, ys.getD k Rec.zero = s := ⟨_, rfl⟩
      rw [hr] at r1 r2 r3 hlk
      rw [hs] at s1 s2 s3 hlk
      obtain ⟨rn, rt, rc, rl, ⟨v, b⟩, tg, d1⟩ := r
      obtain ⟨sn, st, sc, sl, ⟨v', b'⟩, tg', d2⟩ := s
      have HR1 : Kp (wr.drew.rangeAt g (o + k * 23) [.string (mkB rn), .int .i64 rt, .int .i64 rc, .int .u32 rl, .bool v, .int .u8 (b 0), .int .u8 (b 1), .int .u8 (b 2), .int .u8 (b 3), .int .u8 (b 4), .int .u8 (b 5), .int .u8 (b 6), .int .u8 (b 7), .int .u8 (b 8), .int .u8 (b 9), .int .u8 (b 10), .int .u8 (b 11), .int .u8 (b 12), .int .u8 (b 13), .int .u8 (b 14), .int .u8 (b 15), .string (mkB tg), .slice Ar d1.length cr]) := ⟨r1⟩
      have HS1 : Kp (wr.drew.rangeAt g' (o' + k * 23) [.string (mkB sn), .int .i64 st, .int .i64 sc, .int .u32 sl, .bool v', .int .u8 (b' 0), .int .u8 (b' 1), .int .u8 (b' 2), .int .u8 (b' 3), .int .u8 (b' 4), .int .u8 (b' 5), .int .u8 (b' 6), .int .u8 (b' 7), .int .u8 (b' 8), .int .u8 (b' 9), .int .u8 (b' 10), .int .u8 (b' 11), .int .u8 (b' 12), .int .u8 (b' 13), .int .u8 (b' 14), .int .u8 (b' 15), .string (mkB tg'), .slice Br d2.length dr]) := ⟨s1⟩
      have HCALL := Kp.mk (sameRecL_calls ⟨rn, rt, rc, rl, ⟨v, b⟩, tg, d1⟩ ⟨sn, st, sc, sl, ⟨v', b'⟩, tg', d2⟩ hlk Ar Br cr dr wr.drew (Kd.C_below r3 (below_drew (Below.refl _ _))) r2 (Kd.C_below s3 (below_drew (Below.refl _ _))) s2)
      have HBd := Kp.mk (below_drew HW.out)
      have i0 : (0 : Int) ≤ (k : Int) := by omega
      have i1 : (k : Int) < (xs.length : Int) := by omega
      have HME : Kp (k + 1 ≤ xs.length ∧ xs.length - (k + 1) < xs.length - k) := ⟨by omega⟩
      clear hr hs r1 r2 r3 s1 s2 s3 hlk
      go_wp2_with (fail)
      go_still_tail 9, (by kernel_rfl)
      refine still_load_mid rfl 28 (.tmp 22) rfl g (o + k * 23) rfl _ _ HR1.out Tryz.underlying28 (by kernel_rfl) (by kernel_rfl) ?_
      repeat still_step
      refine still_load_mid rfl 28 (.tmp 26) rfl g' (o' + k * 23) rfl _ _ HS1.out Tryz.underlying28 (by kernel_rfl) (by kernel_rfl) ?_
      refine wpStill_nil ?_
      go_wp2_with (fail)
      refine HCALL.out.mono ?_
      rintro e2 w2 ⟨rfl, hb⟩
      have HB2 := Kp.mk (below_step HBd.out hb)
      clear hb
      go_wp2
      refine ⟨⟨k + 1, HME.out.1, by go_num, HB2⟩, ?_⟩
      have hi1 : (intOf (Value.int .i64 ((k : Int) + 1))).toNat = k + 1 := by simp [intOf] <;> omega
      have hi2 : (intOf (Value.int .i64 (k : Int))).toNat = k := by simp [intOf]
      rw [hi1, hi2]
      exact HME.out.2
    · obtain rfl : k = xs.length := by omega
      go_wp2
      go_ret
      exact ⟨rfl, HW.out⟩
theorem sameQ1_calls (q : Qu) (w : World) : Calls Tryz.prog 106 #[.agg #[.string (mkB q.name), .int .i64 q.typ, .int .i64 q.cls], .agg #[.string (mkB q.name), .int .i64 q.typ, .int .i64 q.cls]] w fun e w' => e = .returned (.bool true) ∧ Below w.heap.size w w' := by
  obtain ⟨n, t, c⟩ := q
  dsimp only
  have HB := Kp.mk (((Below.refl w.heap.size w).alloc (Nat.le_refl _) (.cells #[.string (mkB n), .int .i64 t, .int .i64 c] 30)).alloc (by simp) (.cells #[.string (mkB n), .int .i64 t, .int .i64 c] 30))
  go_enter Tryz.func106, Tryz.ntmps106
  go_wp2
  go_ret
  exact ⟨rfl, HB.out⟩
theorem at_quF {w : World} {A : Option Addr} {n : Nat} {xs : List Qu} (h : quK.C w A n xs) (k : Nat) (hk : k < n) :
    ∃ g o, A = some ⟨g, o, none⟩ ∧ w.rangeAt g (o + k * 3) [.string (mkB (xs.getD k Qu.zero).name), .int .i64 (xs.getD k Qu.zero).typ, .int .i64 (xs.getD k Qu.zero).cls] := by
  obtain ⟨ad, cs, e, -, hK, hcell⟩ := Kd.C_get h Qu.zero (k : Int) (by omega) (by omega)
  rw [Int.toNat_natCast] at hK hcell
  obtain ⟨g, o, hA⟩ := flat_C Qu.zero h (by omega) (by decide)
  obtain rfl : ad = ⟨g, o, none⟩ := Option.some.inj (e.symm.trans hA)
  obtain rfl := quK_open.1 hK
  refine ⟨g, o, e, fun j v hj => ?_⟩
  have h1 := hcell j v hj
  have e3 : quK.sz = 3 := rfl
  rw [e3, add_at] at h1
  rw [Nat.add_assoc]
  exact h1
theorem sameQs_calls (A B : Option Addr) (n c d : Nat) (xs : List Qu) (w : World) (h : quK.C w A n xs) (h2 : quK.C w B n xs) :
    Calls Tryz.prog 105 #[.slice A n c, .slice B n d, .func (.func 106) #[] #[]] w fun e w' => e = .returned (.bool true) ∧ Below w.heap.size w w' := by
  obtain rfl := (C_len h).1
  have hm := (C_len h).2
  have HC := Kp.mk h
  have HD := Kp.mk h2
  clear h h2
  go_enter Tryz.func105, Tryz.ntmps105
  go_wp2_with (fail)
  go_loopw [7] (fun i wr => ∃ k : Nat, k ≤ xs.length ∧ i = .int .i64 k ∧ Kp (Below w.heap.size w wr)) (fun i _ => xs.length - (intOf i).toNat)
  case atStart => exact ⟨0, Nat.zero_le _, rfl, ⟨Below.refl _ _⟩⟩
  case round =>
    obtain ⟨k, hk, rfl, HW⟩ := hrel
    by_cases hlt : k < xs.length
    · obtain ⟨g, o, rfl, r1⟩ := at_quF (Kd.C_below HC.out HW.out) k hlt
      obtain ⟨g', o', rfl, s1⟩ := at_quF (Kd.C_below HD.out HW.out) k hlt
      obtain ⟨q, hq⟩ : ∃ q, xs.getD k Qu.zero = q := ⟨_, rfl⟩
      rw [hq] at r1 s1
      obtain ⟨qn, qt, qc⟩ := q
      have HR1 : Kp (wr.drew.rangeAt g (o + k * 3) [.string (mkB qn), .int .i64 qt, .int .i64 qc]) := ⟨r1⟩
      have HS1 : Kp (wr.drew.rangeAt g' (o' + k * 3) [.string (mkB qn), .int .i64 qt, .int .i64 qc]) := ⟨s1⟩
      have HCALL := Kp.mk (sameQ1_calls ⟨qn, qt, qc⟩ wr.drew)
      have HBd := Kp.mk (below_drew HW.out)
      have i0 : (0 : Int) ≤ (k : Int) := by omega
      have i1 : (k : Int) < (xs.length : Int) := by omega
      have HME : Kp (k + 1 ≤ xs.length ∧ xs.length - (k + 1) < xs.length - k) := ⟨by omega⟩
      clear hq r1 s1
      go_wp2_with (fail)
      go_still_tail 9, (by kernel_rfl)
      refine still_load_mid rfl 30 (.tmp 22) rfl g (o + k * 3) rfl _ _ HR1.out Tryz.underlying30 (by kernel_rfl) (by kernel_rfl) ?_
      repeat still_step
      refine still_load_mid rfl 30 (.tmp 26) rfl g' (o' + k * 3) rfl _ _ HS1.out Tryz.underlying30 (by kernel_rfl) (by kernel_rfl) ?_
      refine wpStill_nil ?_
      go_wp2_with (fail)
      refine HCALL.out.mono ?_
      rintro e2 w2 ⟨rfl, hb⟩
      have HB2 := Kp.mk (below_step HBd.out hb)
      clear hb
      go_wp2
      refine ⟨⟨k + 1, HME.out.1, by go_num, HB2⟩, ?_⟩
      have hi1 : (intOf (Value.int .i64 ((k : Int) + 1))).toNat = k + 1 := by simp [intOf] <;> omega
      have hi2 : (intOf (Value.int .i64 (k : Int))).toNat = k := by simp [intOf]
      rw [hi1, hi2]
      exact HME.out.2
    · obtain rfl : k = xs.length := by omega
      go_wp2
      go_ret
      exact ⟨rfl, HW.out⟩
theorem plainQ_calls (A B : Option Addr) (n c d : Nat) (xs : List Qu) (w : World) (h : quK.C w A n xs) (h2 : quK.C w B n xs) :
    Calls Tryz.prog 70 #[.slice A n c, .slice B n d] w fun e w' => e = .returned (.bool true) ∧ Below w.heap.size w w' := by
  have HC := Kp.mk (sameQs_calls A B n c d xs w h h2)
  clear h h2
  go_enter Tryz.func70, Tryz.ntmps70
  go_wp2_with (fail)
  refine HC.out.mono ?_
  rintro e w1 ⟨rfl, hb⟩
  have HB := Kp.mk hb
  clear hb
  go_wp2
  go_ret
  exact ⟨rfl, HB.out⟩
/-- Two messages alike. -/
structure Msg.Like (m n : Msg) : Prop where
  id : m.id = n.id
  rp : m.rp = n.rp
  op : m.op = n.op
  co : m.co = n.co
  fl : m.fl = n.fl
  qs : m.qs = n.qs
  anl : m.an.length = n.an.length
  aul : m.au.length = n.au.length
  exl : m.ex.length = n.ex.length
  an : ∀ k, k < m.an.length → (m.an.getD k Rec.zero).Like (n.an.getD k Rec.zero)
  au : ∀ k, k < m.au.length → (m.au.getD k Rec.zero).Like (n.au.getD k Rec.zero)
  ex : ∀ k, k < m.ex.length → (m.ex.getD k Rec.zero).Like (n.ex.getD k Rec.zero)
/-- A message that may be read. -/
structure MsgC (w : World) (m : Msg) (A5 A6 A7 A8 : Option Addr) : Prop where
  qs : quK.C w A5 m.qs.length m.qs
  an : recK.C w A6 m.an.length m.an
  au : recK.C w A7 m.au.length m.au
  ex : recK.C w A8 m.ex.length m.ex
theorem MsgC.below {w w1 : World} {m : Msg} {A5 A6 A7 A8 : Option Addr} (h : MsgC w m A5 A6 A7 A8) (hb : Below w.heap.size w w1) : MsgC w1 m A5 A6 A7 A8 :=
  ⟨Kd.C_below h.qs hb, Kd.C_below h.an hb, Kd.C_below h.au hb, Kd.C_below h.ex hb⟩
theorem MsgRows.C {w : World} {b : Nat} {m : Msg} {A5 A6 A7 A8 : Option Addr} {c5 c6 c7 c8 : Nat} (h : MsgRows w b m (.slice A5 m.qs.length c5) (.slice A6 m.an.length c6) (.slice A7 m.au.length c7) (.slice A8 m.ex.length c8)) : MsgC w m A5 A6 A7 A8 :=
  ⟨(R_C h.qs).1, (R_C h.an).1, (R_C h.au).1, (R_C h.ex).1⟩
theorem sameMsg_calls (m n : Msg) (A5 A6 A7 A8 B5 B6 B7 B8 : Option Addr) (c5 c6 c7 c8 d5 d6 d7 d8 : Nat) (w : World) (hm : MsgC w m A5 A6 A7 A8) (hn : MsgC w n B5 B6 B7 B8) (hl : m.Like n) :
    Calls Tryz.prog 31 #[.agg (msgA m (.slice A5 m.qs.length c5) (.slice A6 m.an.length c6) (.slice A7 m.au.length c7) (.slice A8 m.ex.length c8)), .agg (msgA n (.slice B5 n.qs.length d5) (.slice B6 n.an.length d6) (.slice B7 n.au.length d7) (.slice B8 n.ex.length d8))] w fun e w' => e = .returned (.bool true) ∧ Below w.heap.size w w' := by
  obtain ⟨i1, i2, i3, i4, i5, q1, q2, q3, q4⟩ := m
  obtain ⟨j1, j2, j3, j4, j5, p1, p2, p3, p4⟩ := n
  obtain ⟨h1, h2, h3, h4, h5, h6, h7, h8, h9, h10, h11, h12⟩ := hl
  dsimp only at h1 h2 h3 h4 h5 h6 h7 h8 h9 h10 h11 h12
  subst h1 h2 h3 h4 h5 h6
  have HB := Kp.mk (((Below.refl w.heap.size w).alloc (Nat.le_refl _) (.cells #[.int .i64 i1, .bool i2, .int .i64 i3, .int .i64 i4, .int .i64 i5, .slice A5 q1.length c5, .slice A6 q2.length c6, .slice A7 q3.length c7, .slice A8 q4.length c8] 59)).alloc (by simp) (.cells #[.int .i64 i1, .bool i2, .int .i64 i3, .int .i64 i4, .int .i64 i5, .slice B5 q1.length d5, .slice B6 p2.length d6, .slice B7 p3.length d7, .slice B8 p4.length d8] 59))
  obtain ⟨t0, t1, -⟩ := two_new w (.cells #[.int .i64 i1, .bool i2, .int .i64 i3, .int .i64 i4, .int .i64 i5, .slice A5 q1.length c5, .slice A6 q2.length c6, .slice A7 q3.length c7, .slice A8 q4.length c8] 59) (.cells #[.int .i64 i1, .bool i2, .int .i64 i3, .int .i64 i4, .int .i64 i5, .slice B5 q1.length d5, .slice B6 p2.length d6, .slice B7 p3.length d7, .slice B8 p4.length d8] 59)
  have HM := Kp.mk hm
  have HN := Kp.mk hn
  have HT0 := Kp.mk t0
  have HT1 := Kp.mk t1
  have H7 := Kp.mk h7
  have H8 := Kp.mk h8
  have H9 := Kp.mk h9
  have H10 := Kp.mk h10
  have H11 := Kp.mk h11
  have H12 := Kp.mk h12
  clear hm hn t0 t1 h7 h8 h9 h10 h11 h12
  go_enter Tryz.func31, Tryz.ntmps31
  go_wp2_with (fail)
  refine (plainQ_calls A5 B5 q1.length c5 d5 q1 _ (Kd.C_below HM.out.qs HB.out) (Kd.C_below HN.out.qs HB.out)).mono ?_
  rintro e1 w1 ⟨rfl, hb1⟩
  have HB1 := Kp.mk (below_step HB.out hb1)
  have hz := blk_below HT0.out hb1
  have hy := blk_below HT1.out hb1
  have a6 := blk_cell hz 6
  have b6 := blk_cell hy 6
  have HT2 := Kp.mk hz
  have HT3 := Kp.mk hy
  clear hb1 hz hy HT0 HT1
  go_wp2_with (fail)
  refine (sameRs_calls A6 B6 c6 d6 q2 p2 _ (Kd.C_below HM.out.an HB1.out) (Kd.C_below HN.out.an HB1.out) H7.out H10.out).mono ?_
  rintro e2 w2 ⟨rfl, hb2⟩
  have HB2 := Kp.mk (below_step HB1.out hb2)
  have hz := blk_below HT2.out hb2
  have hy := blk_below HT3.out hb2
  have a7 := blk_cell hz 7
  have b7 := blk_cell hy 7
  have HT4 := Kp.mk hz
  have HT5 := Kp.mk hy
  clear hb2 hz hy HT2 HT3 a6 b6
  go_wp2_with (fail)
  refine (sameRs_calls A7 B7 c7 d7 q3 p3 _ (Kd.C_below HM.out.au HB2.out) (Kd.C_below HN.out.au HB2.out) H8.out H11.out).mono ?_
  rintro e3 w3 ⟨rfl, hb3⟩
  have HB3 := Kp.mk (below_step HB2.out hb3)
  have hz := blk_below HT4.out hb3
  have hy := blk_below HT5.out hb3
  have a8 := blk_cell hz 8
  have b8 := blk_cell hy 8
  clear hb3 hz hy HT4 HT5 a7 b7
  go_wp2_with (fail)
  refine (sameRs_calls A8 B8 c8 d8 q4 p4 _ (Kd.C_below HM.out.ex HB3.out) (Kd.C_below HN.out.ex HB3.out) H9.out H12.out).mono ?_
  rintro e4 w4 ⟨rfl, hb4⟩
  have HB4 := Kp.mk (below_step HB3.out hb4)
  clear hb4
  go_wp2
  go_ret
  exact ⟨rfl, HB4.out⟩
end Go.Proofs.YtlkneoednkhleaaGreatDoor
