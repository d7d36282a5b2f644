/-
  Several texts of this seat in one: OpenRec, OpenQu, SameMsg, PlayR, PlayS, PlayM, PmA, PlayG, OpenMsg.
-/
import Derived.Test.YtlkneoednkhleaaGreatDoorOpenA
import Derived.Test.YtlkneoednkhleaaGreatDoorGs
import Derived.Test.YtlkneoednkhleaaGreatDoorGu
import Derived.StillTailTactics
import Derived.Test.YtlkneoednkhleaaGreatDoorZPlayN
import Derived.Deep.RegionHeld3
namespace Go.Proofs.YtlkneoednkhleaaGreatDoor
open Go Go.RowKit Go.Proofs.YtlkneoednkhleaaGreatDoorW.PrintWords Go.ChangeShapes Go.WideShapes
set_option linter.unusedVariables false
set_option linter.unusedSimpArgs false
set_option maxRecDepth 100000
set_option maxHeartbeats 1000000

theorem wf8 {x : Int} (h : (Lit.int .u8 x).wf = true) : 0 ≤ x ∧ x ≤ 255 := by
  simpa [Lit.wf, IntKind.min, IntKind.max, IntKind.signed, IntKind.bits] using h
theorem opens_ad : Opens Tryz.prog 26 adK Ad.ok := fun h => by
  obtain ⟨⟨v, ys⟩, hK, hw⟩ := (opens_struct Tryz.underlying26 (by kernel_rfl) (opensF_cons rfl (by kernel_rfl) (opens_bool Tryz.underlying4) (opensF_one rfl (by kernel_rfl) (opens_arr Tryz.underlying24 Tryz.underlying5 (by kernel_rfl) (by kernel_rfl))))) h
  obtain ⟨c0, c1, rfl, h0, hl, h1⟩ := hK
  obtain rfl : c0 = [.bool v] := h0
  have h1' : c1 = nums .u8 ys := h1
  subst h1'
  have hl' : ys.length = 16 := hl
  have hb : ∀ i, i < 16 → 0 ≤ ys.getD i 0 ∧ ys.getD i 0 ≤ 255 := fun i hi => wf8 (hw.2 _ (getD_mem ys 0 i (by omega)))
  refine ⟨⟨v, fun i => ys.getD i 0⟩, ?_, hb⟩
  match ys, hl' with
  | [x0, x1, x2, x3, x4, x5, x6, x7, x8, x9, x10, x11, x12, x13, x14, x15], _ => rfl
/-- What is asked of a record that is handed in. -/
structure Rec.fit (r : Rec) : Prop where
  ok : r.ok
  typ : -9223372036854775808 ≤ r.typ ∧ r.typ ≤ 9223372036854775807
  cls : -9223372036854775808 ≤ r.cls ∧ r.cls ≤ 9223372036854775807
  ttl : 0 ≤ r.ttl ∧ r.ttl ≤ 4294967295
  name : r.name.length ≤ 9223372036854775807
  tgt : r.tgt.length ≤ 9223372036854775807
theorem wf64 {x : Int} (h : (Lit.int .i64 x).wf = true) : -9223372036854775808 ≤ x ∧ x ≤ 9223372036854775807 := by
  simpa [Lit.wf, IntKind.min, IntKind.max, IntKind.signed, IntKind.bits] using h
theorem wf32 {x : Int} (h : (Lit.int .u32 x).wf = true) : 0 ≤ x ∧ x ≤ 4294967295 := by
  simpa [Lit.wf, IntKind.min, IntKind.max, IntKind.signed, IntKind.bits] using h
theorem opens_rec : Opens Tryz.prog 28 recK Rec.fit := fun h => by
  obtain ⟨⟨n, t, c, l, a, g, d⟩, hK, hw⟩ := (opens_struct Tryz.underlying28 (by kernel_rfl) (opensF_cons rfl (by kernel_rfl) (opens_string Tryz.underlying9) (opensF_cons rfl (by kernel_rfl) (opens_int Tryz.underlying3) (opensF_cons rfl (by kernel_rfl) (opens_int Tryz.underlying3) (opensF_cons rfl (by kernel_rfl) (opens_int Tryz.underlying23)
    (opensF_cons rfl (by kernel_rfl) opens_ad (opensF_cons rfl (by kernel_rfl) (opens_string Tryz.underlying9) (opensF_one rfl (by kernel_rfl) (opens_slice Tryz.underlying22 (by kernel_rfl) (opens_int Tryz.underlying5)))))))))) h
  obtain ⟨h1, h2, h3, h4, h5, h6, h7⟩ := hw
  exact ⟨⟨n.data.toList, t, c, l, a, g.data.toList, d⟩, hK, ⟨h5, fun x hx => wf8 (h7 x hx)⟩, wf64 h2, wf64 h3, wf32 h4, h1, h6⟩
theorem open_rec {H : Type} {enc : TypeId × Value → H} {w : World} {base : Nat} {spare : Nat → Bool} {held : Bool} {r : Reach} {b0 : Nat} {v : Value} {dd : DataW H} {ps : List MemPlace} (hval : Value.okWide Tryz.prog w r b0 28 v) (hd : DataW.Trod enc Tryz.prog w base spare held 28 v dd ps) :
    ∃ (r : Rec) (A : Option Addr) (c : Nat), v = .agg (recA r (.slice A r.data.length c)) ∧ (Kd.int .u8).C w A r.data.length r.data ∧ r.data.length ≤ c ∧ r.fit := by
  obtain ⟨cs, rfl, -⟩ := okWide_struct Tryz.underlying28 hval
  obtain ⟨fuel, hf⟩ := hd
  obtain ⟨r, hK, hw⟩ := opens_rec hf
  obtain ⟨A, c, hcs, hl, hC⟩ := recK_open hK
  refine ⟨r, A, c, ?_, hC, hl, hw⟩
  have h1 : cs.toList = (recA r (.slice A r.data.length c)).toList := hcs
  rw [Array.toList_inj.1 h1]
end Go.Proofs.YtlkneoednkhleaaGreatDoor

namespace Go.Proofs.YtlkneoednkhleaaGreatDoor
open Go Go.RowKit Go.Proofs.YtlkneoednkhleaaGreatDoorW.PrintWords Go.ChangeShapes Go.WideShapes
set_option linter.unusedVariables false
set_option linter.unusedSimpArgs false
set_option maxRecDepth 100000
set_option maxHeartbeats 1000000

/-- What is asked of a question that is handed in. -/
structure Qu.fit (q : Qu) : Prop where
  typ : -9223372036854775808 ≤ q.typ ∧ q.typ ≤ 9223372036854775807
  cls : -9223372036854775808 ≤ q.cls ∧ q.cls ≤ 9223372036854775807
  name : q.name.length ≤ 9223372036854775807
theorem opens_qu : Opens Tryz.prog 30 quK Qu.fit := fun h => by
  obtain ⟨⟨n, t, c⟩, hK, hw⟩ := (opens_struct Tryz.underlying30 (by kernel_rfl) (opensF_cons rfl (by kernel_rfl) (opens_string Tryz.underlying9) (opensF_cons rfl (by kernel_rfl) (opens_int Tryz.underlying3) (opensF_one rfl (by kernel_rfl) (opens_int Tryz.underlying3))))) h
  obtain ⟨h1, h2, h3⟩ := hw
  exact ⟨⟨n.data.toList, t, c⟩, hK, ⟨wf64 h2, wf64 h3, h1⟩⟩
theorem open_qu {H : Type} {enc : TypeId × Value → H} {w : World} {base : Nat} {spare : Nat → Bool} {held : Bool} {r : Reach} {b0 : Nat} {v : Value} {dd : DataW H} {ps : List MemPlace} (hval : Value.okWide Tryz.prog w r b0 30 v) (hd : DataW.Trod enc Tryz.prog w base spare held 30 v dd ps) :
    ∃ q : Qu, v = .agg #[.string (mkB q.name), .int .i64 q.typ, .int .i64 q.cls] ∧ q.fit := by
  obtain ⟨cs, rfl, -⟩ := okWide_struct Tryz.underlying30 hval
  obtain ⟨fuel, hf⟩ := hd
  obtain ⟨q, hK, hw⟩ := opens_qu hf
  refine ⟨q, ?_, hw⟩
  have h1 : cs.toList = [.string (mkB q.name), .int .i64 q.typ, .int .i64 q.cls] := quK_open.1 hK
  have h2 : cs.toList = (#[.string (mkB q.name), .int .i64 q.typ, .int .i64 q.cls] : Array Value).toList := h1
  rw [Array.toList_inj.1 h2]
end Go.Proofs.YtlkneoednkhleaaGreatDoor

namespace Go.Proofs.YtlkneoednkhleaaGreatDoor
open Go.RowKit Go.Proofs.YtlkneoednkhleaaGreatDoorW.PrintWords
set_option linter.unusedVariables false
set_option linter.unusedSimpArgs false
set_option maxRecDepth 100000
set_option maxHeartbeats 2000000

/-- A struct that is loaded out of the midst of a block, ahead of a region's tail. -/
theorem still_load_mid {P : Program} {ops : Array Oper} {rest : List Oper} {op : Oper} {a : Act} {w : World} {Q : Act → Prop} (hgd : op.guard = none) (ty : TypeId) (x : Operand) (ho : op.op = .load ty x)
    (b o : Nat) (hx : a.eval x = .pointer (some ⟨b, o, none⟩)) (cs : List Value) (d : TypeDesc) (hc : w.rangeAt b o cs) (hu : P.underlying ty = some d) (hd : d.isRow = true) (hi : (P.info? ty).map (·.size) = some cs.length)
    (h : wpStill P ops w Q rest (a.put op.dst (.agg cs.toArray))) : wpStill P ops w Q (op :: rest) a :=
  wpStill_step fun K hK => by
    have hw : Region.wanted op (yielded ops a.tmps) = true := by simp [Region.wanted, hgd]
    rw [if_pos hw]
    unfold Oper.still execOp
    simp only [ho, hx, Instr.loadAt, Instr.sureAddr, Sem.run_bind, Sem.run_pure, Result.andThen_ok, run_loadVar_mid w b o ty cs d hc hu hd hi, Oper.stillUpon_value]
    exact hK _ h
/-- Two records alike. -/
structure Rec.Like (r s : Rec) : Prop where
  name : r.name = s.name
  typ : r.typ = s.typ
  cls : r.cls = s.cls
  ttl : r.ttl = s.ttl
  v6 : r.ad.v6 = s.ad.v6
  l : r.ad.l = s.ad.l
  tgt : r.tgt = s.tgt
  data : r.data = s.data
theorem Rec.Like.refl (r : Rec) : r.Like r := ⟨rfl, rfl, rfl, rfl, rfl, rfl, rfl, rfl⟩
/-- A cell that is there lies at a block's place. -/
theorem cell_flat {w : World} {ad : Addr} {u : Value} (h : w.cell? ad = some u) : ad = ⟨ad.block, ad.off, none⟩ := by
  obtain ⟨b, o, s⟩ := ad
  cases s with
  | none => rfl
  | some s =>
    unfold World.cell? at h
    split at h
    · rw [if_pos (by rfl)] at h; cases h
    · cases h
/-- A row that holds something begins at a block's place. -/
theorem flat_C {α : Type} {d : Kd α} {w : World} {A : Option Addr} {n : Nat} {xs : List α} (z : α) (h : d.C w A n xs) (hn : 0 < n) (hz : 0 < d.sz) : ∃ g o, A = some ⟨g, o, none⟩ := by
  obtain ⟨ad, cs, e, hl, -, hcell⟩ := Kd.C_get h z 0 (by omega) (by omega)
  cases cs with
  | nil => simp at hl; omega
  | cons u us =>
    have h1 := hcell 0 u rfl
    have h2 : ad.add ((0 : Int).toNat * d.sz + 0) = ad := by simp [Addr.add]
    rw [h2] at h1
    exact ⟨ad.block, ad.off, by rw [e, ← cell_flat h1]⟩
theorem sameRecL_calls (r s : Rec) (hl : r.Like s) (A A' : Option Addr) (c c' : Nat) (w : World) (h : (Kd.int .u8).C w A r.data.length r.data) (hc : r.data.length ≤ c) (h' : (Kd.int .u8).C w A' s.data.length s.data) (hc' : s.data.length ≤ c') :
    Calls Tryz.prog 20 #[.agg (recA r (.slice A r.data.length c)), .agg (recA s (.slice A' s.data.length c'))] w fun e w' => e = .returned (.bool true) ∧ Below w.heap.size w w' := by
  obtain ⟨rn, rt, rc, rl, ⟨v, b⟩, tg, d⟩ := r
  obtain ⟨sn, st, sc, sl, ⟨v', b'⟩, tg', d'⟩ := s
  obtain ⟨h1, h2, h3, h4, h5, h6, h7, h8⟩ := hl
  dsimp only at h1 h2 h3 h4 h5 h7 h8
  subst h1 h2 h3 h4 h5 h7 h8
  exact sameRec_calls rn rt rc rl v b b' tg d A A' c c' w (by have h9 : [b 0, b 1, b 2, b 3, b 4, b 5, b 6, b 7, b 8, b 9, b 10, b 11, b 12, b 13, b 14, b 15] = [b' 0, b' 1, b' 2, b' 3, b' 4, b' 5, b' 6, b' 7, b' 8, b' 9, b' 10, b' 11, b' 12, b' 13, b' 14, b' 15] := h6; rw [h9]; exact eq16_self _) h hc h' hc'
/-- A record that is read out of a row. -/
theorem at_rec {w : World} {A : Option Addr} {n : Nat} {xs : List Rec} (h : recK.C w A n xs) (k : Nat) (hk : k < n) :
    ∃ g o Ar cr, A = some ⟨g, o, none⟩ ∧ w.rangeAt g (o + k * 23) (recA (xs.getD k Rec.zero) (.slice Ar (xs.getD k Rec.zero).data.length cr)).toList ∧ (xs.getD k Rec.zero).data.length ≤ cr ∧ (Kd.int .u8).C w Ar (xs.getD k Rec.zero).data.length (xs.getD k Rec.zero).data := by
  obtain ⟨ad, cs, e, -, hK, hcell⟩ := Kd.C_get h Rec.zero (k : Int) (by omega) (by omega)
  rw [Int.toNat_natCast] at hK hcell
  obtain ⟨g, o, hA⟩ := flat_C Rec.zero h (by omega) (by decide)
  obtain rfl : ad = ⟨g, o, none⟩ := Option.some.inj (e.symm.trans hA)
  obtain ⟨Ar, cr, rfl, hd, hC⟩ := recK_open hK
  refine ⟨g, o, Ar, cr, e, fun j v hj => ?_, hd, hC⟩
  have h1 := hcell j v hj
  have e23 : recK.sz = 23 := rfl
  rw [e23, add_at] at h1
  rw [Nat.add_assoc]
  exact h1
theorem sameRs_calls (A B : Option Addr) (c d : Nat) (xs ys : List Rec) (w : World) (h : recK.C w A xs.length xs) (h2 : recK.C w B ys.length ys) (hlen : xs.length = ys.length) (hlk : ∀ k, k < xs.length → (xs.getD k Rec.zero).Like (ys.getD k Rec.zero)) :
    Calls Tryz.prog 71 #[.slice A xs.length c, .slice B ys.length d, .func (.func 20) #[] #[]] w fun e w' => e = .returned (.bool true) ∧ Below w.heap.size w w' := by
  have hm := (C_len h).2
  rw [← hlen] at h2 ⊢
  have HC := Kp.mk h
  have HD := Kp.mk h2
  have HL := Kp.mk hlk
  clear h h2 hlk hlen
  go_enter Tryz.func71, Tryz.ntmps71
  go_wp2_with (fail)
  go_loopw [7] (fun i wr => ∃ k : Nat, k ≤ xs.length ∧ i = .int .i64 k ∧ Kp (Below w.heap.size w wr)) (fun i _ => xs.length - (intOf i).toNat)
  case atStart => exact ⟨0, Nat.zero_le _, rfl, ⟨Below.refl _ _⟩⟩
  case round =>
    obtain ⟨k, hk, rfl, HW⟩ := hrel
    by_cases hlt : k < xs.length
    · obtain ⟨g, o, Ar, cr, rfl, r1, r2, r3⟩ := at_rec (Kd.C_below HC.out HW.out) k hlt
      obtain ⟨g', o', Br, dr, rfl, s1, s2, s3⟩ := at_rec (Kd.C_below HD.out HW.out) k hlt
      have hlk := HL.out k hlt
      obtain ⟨r, hr⟩ : ∃ r, xs.getD k Rec.zero = r := ⟨_, rfl⟩
      obtain ⟨s, hs⟩ : ∃ s, ys.getD k Rec.zero = s := ⟨_, rfl⟩
      rw [hr] at r1 r2 r3 hlk
      rw [hs] at s1 s2 s3 hlk
      obtain ⟨rn, rt, rc, rl, ⟨v, b⟩, tg, d1⟩ := r
      obtain ⟨sn, st, sc, sl, ⟨v', b'⟩, tg', d2⟩ := s
      have HR1 : Kp (wr.drew.rangeAt g (o + k * 23) [.string (mkB rn), .int .i64 rt, .int .i64 rc, .int .u32 rl, .bool v, .int .u8 (b 0), .int .u8 (b 1), .int .u8 (b 2), .int .u8 (b 3), .int .u8 (b 4), .int .u8 (b 5), .int .u8 (b 6), .int .u8 (b 7), .int .u8 (b 8), .int .u8 (b 9), .int .u8 (b 10), .int .u8 (b 11), .int .u8 (b 12), .int .u8 (b 13), .int .u8 (b 14), .int .u8 (b 15), .string (mkB tg), .slice Ar d1.length cr]) := ⟨r1⟩
      have HS1 : Kp (wr.drew.rangeAt g' (o' + k * 23) [.string (mkB sn), .int .i64 st, .int .i64 sc, .int .u32 sl, .bool v', .int .u8 (b' 0), .int .u8 (b' 1), .int .u8 (b' 2), .int .u8 (b' 3), .int .u8 (b' 4), .int .u8 (b' 5), .int .u8 (b' 6), .int .u8 (b' 7), .int .u8 (b' 8), .int .u8 (b' 9), .int .u8 (b' 10), .int .u8 (b' 11), .int .u8 (b' 12), .int .u8 (b' 13), .int .u8 (b' 14), .int .u8 (b' 15), .string (mkB tg'), .slice Br d2.length dr]) := ⟨s1⟩
      have HCALL := Kp.mk (sameRecL_calls ⟨rn, rt, rc, rl, ⟨v, b⟩, tg, d1⟩ ⟨sn, st, sc, sl, ⟨v', b'⟩, tg', d2⟩ hlk Ar Br cr dr wr.drew (Kd.C_below r3 (below_drew (Below.refl _ _))) r2 (Kd.C_below s3 (below_drew (Below.refl _ _))) s2)
      have HBd := Kp.mk (below_drew HW.out)
      have i0 : (0 : Int) ≤ (k : Int) := by omega
      have i1 : (k : Int) < (xs.length : Int) := by omega
      have HME : Kp (k + 1 ≤ xs.length ∧ xs.length - (k + 1) < xs.length - k) := ⟨by omega⟩
      clear hr hs r1 r2 r3 s1 s2 s3 hlk
      go_wp2_with (fail)
      go_still_tail 9, (by kernel_rfl)
      refine still_load_mid rfl 28 (.tmp 22) rfl g (o + k * 23) rfl _ _ HR1.out Tryz.underlying28 (by kernel_rfl) (by kernel_rfl) ?_
      repeat still_step
      refine still_load_mid rfl 28 (.tmp 26) rfl g' (o' + k * 23) rfl _ _ HS1.out Tryz.underlying28 (by kernel_rfl) (by kernel_rfl) ?_
      refine wpStill_nil ?_
      go_wp2_with (fail)
      refine HCALL.out.mono ?_
      rintro e2 w2 ⟨rfl, hb⟩
      have HB2 := Kp.mk (below_step HBd.out hb)
      clear hb
      go_wp2
      refine ⟨⟨k + 1, HME.out.1, by go_num, HB2⟩, ?_⟩
      have hi1 : (intOf (Value.int .i64 ((k : Int) + 1))).toNat = k + 1 := by simp [intOf] <;> omega
      have hi2 : (intOf (Value.int .i64 (k : Int))).toNat = k := by simp [intOf]
      rw [hi1, hi2]
      exact HME.out.2
    · obtain rfl : k = xs.length := by omega
      go_wp2
      go_ret
      exact ⟨rfl, HW.out⟩
theorem sameQ1_calls (q : Qu) (w : World) : Calls Tryz.prog 106 #[.agg #[.string (mkB q.name), .int .i64 q.typ, .int .i64 q.cls], .agg #[.string (mkB q.name), .int .i64 q.typ, .int .i64 q.cls]] w fun e w' => e = .returned (.bool true) ∧ Below w.heap.size w w' := by
  obtain ⟨n, t, c⟩ := q
  dsimp only
  have HB := Kp.mk (((Below.refl w.heap.size w).alloc (Nat.le_refl _) (.cells #[.string (mkB n), .int .i64 t, .int .i64 c] 30)).alloc (by simp) (.cells #[.string (mkB n), .int .i64 t, .int .i64 c] 30))
  go_enter Tryz.func106, Tryz.ntmps106
  go_wp2
  go_ret
  exact ⟨rfl, HB.out⟩
theorem at_quF {w : World} {A : Option Addr} {n : Nat} {xs : List Qu} (h : quK.C w A n xs) (k : Nat) (hk : k < n) :
    ∃ g o, A = some ⟨g, o, none⟩ ∧ w.rangeAt g (o + k * 3) [.string (mkB (xs.getD k Qu.zero).name), .int .i64 (xs.getD k Qu.zero).typ, .int .i64 (xs.getD k Qu.zero).cls] := by
  obtain ⟨ad, cs, e, -, hK, hcell⟩ := Kd.C_get h Qu.zero (k : Int) (by omega) (by omega)
  rw [Int.toNat_natCast] at hK hcell
  obtain ⟨g, o, hA⟩ := flat_C Qu.zero h (by omega) (by decide)
  obtain rfl : ad = ⟨g, o, none⟩ := Option.some.inj (e.symm.trans hA)
  obtain rfl := quK_open.1 hK
  refine ⟨g, o, e, fun j v hj => ?_⟩
  have h1 := hcell j v hj
  have e3 : quK.sz = 3 := rfl
  rw [e3, add_at] at h1
  rw [Nat.add_assoc]
  exact h1
theorem sameQs_calls (A B : Option Addr) (n c d : Nat) (xs : List Qu) (w : World) (h : quK.C w A n xs) (h2 : quK.C w B n xs) :
    Calls Tryz.prog 105 #[.slice A n c, .slice B n d, .func (.func 106) #[] #[]] w fun e w' => e = .returned (.bool true) ∧ Below w.heap.size w w' := by
  obtain rfl := (C_len h).1
  have hm := (C_len h).2
  have HC := Kp.mk h
  have HD := Kp.mk h2
  clear h h2
  go_enter Tryz.func105, Tryz.ntmps105
  go_wp2_with (fail)
  go_loopw [7] (fun i wr => ∃ k : Nat, k ≤ xs.length ∧ i = .int .i64 k ∧ Kp (Below w.heap.size w wr)) (fun i _ => xs.length - (intOf i).toNat)
  case atStart => exact ⟨0, Nat.zero_le _, rfl, ⟨Below.refl _ _⟩⟩
  case round =>
    obtain ⟨k, hk, rfl, HW⟩ := hrel
    by_cases hlt : k < xs.length
    · obtain ⟨g, o, rfl, r1⟩ := at_quF (Kd.C_below HC.out HW.out) k hlt
      obtain ⟨g', o', rfl, s1⟩ := at_quF (Kd.C_below HD.out HW.out) k hlt
      obtain ⟨q, hq⟩ : ∃ q, xs.getD k Qu.zero = q := ⟨_, rfl⟩
      rw [hq] at r1 s1
      obtain ⟨qn, qt, qc⟩ := q
      have HR1 : Kp (wr.drew.rangeAt g (o + k * 3) [.string (mkB qn), .int .i64 qt, .int .i64 qc]) := ⟨r1⟩
      have HS1 : Kp (wr.drew.rangeAt g' (o' + k * 3) [.string (mkB qn), .int .i64 qt, .int .i64 qc]) := ⟨s1⟩
      have HCALL := Kp.mk (sameQ1_calls ⟨qn, qt, qc⟩ wr.drew)
      have HBd := Kp.mk (below_drew HW.out)
      have i0 : (0 : Int) ≤ (k : Int) := by omega
      have i1 : (k : Int) < (xs.length : Int) := by omega
      have HME : Kp (k + 1 ≤ xs.length ∧ xs.length - (k + 1) < xs.length - k) := ⟨by omega⟩
      clear hq r1 s1
      go_wp2_with (fail)
      go_still_tail 9, (by kernel_rfl)
      refine still_load_mid rfl 30 (.tmp 22) rfl g (o + k * 3) rfl _ _ HR1.out Tryz.underlying30 (by kernel_rfl) (by kernel_rfl) ?_
      repeat still_step
      refine still_load_mid rfl 30 (.tmp 26) rfl g' (o' + k * 3) rfl _ _ HS1.out Tryz.underlying30 (by kernel_rfl) (by kernel_rfl) ?_
      refine wpStill_nil ?_
      go_wp2_with (fail)
      refine HCALL.out.mono ?_
      rintro e2 w2 ⟨rfl, hb⟩
      have HB2 := Kp.mk (below_step HBd.out hb)
      clear hb
      go_wp2
      refine ⟨⟨k + 1, HME.out.1, by go_num, HB2⟩, ?_⟩
      have hi1 : (intOf (Value.int .i64 ((k : Int) + 1))).toNat = k + 1 := by simp [intOf] <;> omega
      have hi2 : (intOf (Value.int .i64 (k : Int))).toNat = k := by simp [intOf]
      rw [hi1, hi2]
      exact HME.out.2
    · obtain rfl : k = xs.length := by omega
      go_wp2
      go_ret
      exact ⟨rfl, HW.out⟩
theorem plainQ_calls (A B : Option Addr) (n c d : Nat) (xs : List Qu) (w : World) (h : quK.C w A n xs) (h2 : quK.C w B n xs) :
    Calls Tryz.prog 70 #[.slice A n c, .slice B n d] w fun e w' => e = .returned (.bool true) ∧ Below w.heap.size w w' := by
  have HC := Kp.mk (sameQs_calls A B n c d xs w h h2)
  clear h h2
  go_enter Tryz.func70, Tryz.ntmps70
  go_wp2_with (fail)
  refine HC.out.mono ?_
  rintro e w1 ⟨rfl, hb⟩
  have HB := Kp.mk hb
  clear hb
  go_wp2
  go_ret
  exact ⟨rfl, HB.out⟩
/-- Two messages alike. -/
structure Msg.Like (m n : Msg) : Prop where
  id : m.id = n.id
  rp : m.rp = n.rp
  op : m.op = n.op
  co : m.co = n.co
  fl : m.fl = n.fl
  qs : m.qs = n.qs
  anl : m.an.length = n.an.length
  aul : m.au.length = n.au.length
  exl : m.ex.length = n.ex.length
  an : ∀ k, k < m.an.length → (m.an.getD k Rec.zero).Like (n.an.getD k Rec.zero)
  au : ∀ k, k < m.au.length → (m.au.getD k Rec.zero).Like (n.au.getD k Rec.zero)
  ex : ∀ k, k < m.ex.length → (m.ex.getD k Rec.zero).Like (n.ex.getD k Rec.zero)
/-- A message that may be read. -/
structure MsgC (w : World) (m : Msg) (A5 A6 A7 A8 : Option Addr) : Prop where
  qs : quK.C w A5 m.qs.length m.qs
  an : recK.C w A6 m.an.length m.an
  au : recK.C w A7 m.au.length m.au
  ex : recK.C w A8 m.ex.length m.ex
theorem MsgC.below {w w1 : World} {m : Msg} {A5 A6 A7 A8 : Option Addr} (h : MsgC w m A5 A6 A7 A8) (hb : Below w.heap.size w w1) : MsgC w1 m A5 A6 A7 A8 :=
  ⟨Kd.C_below h.qs hb, Kd.C_below h.an hb, Kd.C_below h.au hb, Kd.C_below h.ex hb⟩
theorem MsgRows.C {w : World} {b : Nat} {m : Msg} {A5 A6 A7 A8 : Option Addr} {c5 c6 c7 c8 : Nat} (h : MsgRows w b m (.slice A5 m.qs.length c5) (.slice A6 m.an.length c6) (.slice A7 m.au.length c7) (.slice A8 m.ex.length c8)) : MsgC w m A5 A6 A7 A8 :=
  ⟨(R_C h.qs).1, (R_C h.an).1, (R_C h.au).1, (R_C h.ex).1⟩
theorem sameMsg_calls (m n : Msg) (A5 A6 A7 A8 B5 B6 B7 B8 : Option Addr) (c5 c6 c7 c8 d5 d6 d7 d8 : Nat) (w : World) (hm : MsgC w m A5 A6 A7 A8) (hn : MsgC w n B5 B6 B7 B8) (hl : m.Like n) :
    Calls Tryz.prog 31 #[.agg (msgA m (.slice A5 m.qs.length c5) (.slice A6 m.an.length c6) (.slice A7 m.au.length c7) (.slice A8 m.ex.length c8)), .agg (msgA n (.slice B5 n.qs.length d5) (.slice B6 n.an.length d6) (.slice B7 n.au.length d7) (.slice B8 n.ex.length d8))] w fun e w' => e = .returned (.bool true) ∧ Below w.heap.size w w' := by
  obtain ⟨i1, i2, i3, i4, i5, q1, q2, q3, q4⟩ := m
  obtain ⟨j1, j2, j3, j4, j5, p1, p2, p3, p4⟩ := n
  obtain ⟨h1, h2, h3, h4, h5, h6, h7, h8, h9, h10, h11, h12⟩ := hl
  dsimp only at h1 h2 h3 h4 h5 h6 h7 h8 h9 h10 h11 h12
  subst h1 h2 h3 h4 h5 h6
  have HB := Kp.mk (((Below.refl w.heap.size w).alloc (Nat.le_refl _) (.cells #[.int .i64 i1, .bool i2, .int .i64 i3, .int .i64 i4, .int .i64 i5, .slice A5 q1.length c5, .slice A6 q2.length c6, .slice A7 q3.length c7, .slice A8 q4.length c8] 59)).alloc (by simp) (.cells #[.int .i64 i1, .bool i2, .int .i64 i3, .int .i64 i4, .int .i64 i5, .slice B5 q1.length d5, .slice B6 p2.length d6, .slice B7 p3.length d7, .slice B8 p4.length d8] 59))
  obtain ⟨t0, t1, -⟩ := two_new w (.cells #[.int .i64 i1, .bool i2, .int .i64 i3, .int .i64 i4, .int .i64 i5, .slice A5 q1.length c5, .slice A6 q2.length c6, .slice A7 q3.length c7, .slice A8 q4.length c8] 59) (.cells #[.int .i64 i1, .bool i2, .int .i64 i3, .int .i64 i4, .int .i64 i5, .slice B5 q1.length d5, .slice B6 p2.length d6, .slice B7 p3.length d7, .slice B8 p4.length d8] 59)
  have HM := Kp.mk hm
  have HN := Kp.mk hn
  have HT0 := Kp.mk t0
  have HT1 := Kp.mk t1
  have H7 := Kp.mk h7
  have H8 := Kp.mk h8
  have H9 := Kp.mk h9
  have H10 := Kp.mk h10
  have H11 := Kp.mk h11
  have H12 := Kp.mk h12
  clear hm hn t0 t1 h7 h8 h9 h10 h11 h12
  go_enter Tryz.func31, Tryz.ntmps31
  go_wp2_with (fail)
  refine (plainQ_calls A5 B5 q1.length c5 d5 q1 _ (Kd.C_below HM.out.qs HB.out) (Kd.C_below HN.out.qs HB.out)).mono ?_
  rintro e1 w1 ⟨rfl, hb1⟩
  have HB1 := Kp.mk (below_step HB.out hb1)
  have hz := blk_below HT0.out hb1
  have hy := blk_below HT1.out hb1
  have a6 := blk_cell hz 6
  have b6 := blk_cell hy 6
  have HT2 := Kp.mk hz
  have HT3 := Kp.mk hy
  clear hb1 hz hy HT0 HT1
  go_wp2_with (fail)
  refine (sameRs_calls A6 B6 c6 d6 q2 p2 _ (Kd.C_below HM.out.an HB1.out) (Kd.C_below HN.out.an HB1.out) H7.out H10.out).mono ?_
  rintro e2 w2 ⟨rfl, hb2⟩
  have HB2 := Kp.mk (below_step HB1.out hb2)
  have hz := blk_below HT2.out hb2
  have hy := blk_below HT3.out hb2
  have a7 := blk_cell hz 7
  have b7 := blk_cell hy 7
  have HT4 := Kp.mk hz
  have HT5 := Kp.mk hy
  clear hb2 hz hy HT2 HT3 a6 b6
  go_wp2_with (fail)
  refine (sameRs_calls A7 B7 c7 d7 q3 p3 _ (Kd.C_below HM.out.au HB2.out) (Kd.C_below HN.out.au HB2.out) H8.out H11.out).mono ?_
  rintro e3 w3 ⟨rfl, hb3⟩
  have HB3 := Kp.mk (below_step HB2.out hb3)
  have hz := blk_below HT4.out hb3
  have hy := blk_below HT5.out hb3
  have a8 := blk_cell hz 8
  have b8 := blk_cell hy 8
  clear hb3 hz hy HT4 HT5 a7 b7
  go_wp2_with (fail)
  refine (sameRs_calls A8 B8 c8 d8 q4 p4 _ (Kd.C_below HM.out.ex HB3.out) (Kd.C_below HN.out.ex HB3.out) H9.out H12.out).mono ?_
  rintro e4 w4 ⟨rfl, hb4⟩
  have HB4 := Kp.mk (below_step HB3.out hb4)
  clear hb4
  go_wp2
  go_ret
  exact ⟨rfl, HB4.out⟩
end Go.Proofs.YtlkneoednkhleaaGreatDoor

namespace Go.Proofs.YtlkneoednkhleaaGreatDoor
open Go.RowKit Go.Proofs.YtlkneoednkhleaaGreatDoorW.PrintWords
set_option linter.unusedVariables false
set_option linter.unusedSimpArgs false
set_option maxRecDepth 100000
set_option maxHeartbeats 1000000

/-- A number of two bytes out of any. -/
def portV (v : Int) : Int := wrap64 ((IntKind.u64.wrap v).tmod 65536)
theorem portV_range (v : Int) : 0 ≤ portV v ∧ portV v ≤ 65535 := by
  obtain ⟨N, hN, h⟩ := umod v 65536 (by decide) (by decide)
  unfold portV
  omega
theorem port_calls (v : Int) (w : World) : Calls Tryz.prog 73 #[.int .i64 v] w fun e w' => e = .returned (.int .i64 (portV v)) ∧ w = w' := by
  go_enter Tryz.func73, Tryz.ntmps73
  go_wp2
  go_ret
  exact ⟨rfl, rfl⟩
/-- An address of a version. -/
def playAd (a : Ad) (v6 : Bool) : Ad := ⟨v6, fun i => if v6 = false ∧ 4 ≤ i then 0 else a.b i⟩
def zeroTo (b : Nat → Int) (k : Nat) : Nat → Int := fun i => if 4 ≤ i ∧ i < k then 0 else b i
theorem zero_step (v : Bool) (f : Nat → Int) (k : Nat) (hk : k < 16) : (adC ⟨v, f⟩).toArray.setIfInBounds (1 + k) (.int .u8 0) = (adC ⟨v, fun i => if i = k then 0 else f i⟩).toArray := by
  match k, hk with
  | 0, _ | 1, _ | 2, _ | 3, _ | 4, _ | 5, _ | 6, _ | 7, _ | 8, _ | 9, _ | 10, _ | 11, _ | 12, _ | 13, _ | 14, _ | 15, _ => rfl
  | _ + 16, h => exact absurd h (by omega)
theorem adC_get (v : Bool) (f : Nat → Int) (k : Nat) (hk : k < 16) : (adC ⟨v, f⟩).toArray[1 + k]? = some (.int .u8 (f k)) := by
  match k, hk with
  | 0, _ | 1, _ | 2, _ | 3, _ | 4, _ | 5, _ | 6, _ | 7, _ | 8, _ | 9, _ | 10, _ | 11, _ | 12, _ | 13, _ | 14, _ | 15, _ => rfl
  | _ + 16, h => exact absurd h (by omega)
theorem zeroTo_succ (b : Nat → Int) (k : Nat) (hk : 4 ≤ k) : (fun i => if i = k then 0 else zeroTo b k i) = zeroTo b (k + 1) := by
  funext i
  unfold zeroTo
  split
  · rename_i h; subst h; rw [if_pos ⟨hk, Nat.lt_succ_self _⟩]
  · rename_i h
    by_cases h2 : 4 ≤ i ∧ i < k
    · rw [if_pos h2, if_pos ⟨h2.1, by omega⟩]
    · rw [if_neg h2, if_neg (by omega)]
theorem playAddr_calls (a : Ad) (v6 : Bool) (w : World) : Calls Tryz.prog 126 #[.agg #[.bool a.v6, .int .u8 (a.b 0), .int .u8 (a.b 1), .int .u8 (a.b 2), .int .u8 (a.b 3), .int .u8 (a.b 4), .int .u8 (a.b 5), .int .u8 (a.b 6), .int .u8 (a.b 7), .int .u8 (a.b 8), .int .u8 (a.b 9), .int .u8 (a.b 10), .int .u8 (a.b 11), .int .u8 (a.b 12), .int .u8 (a.b 13), .int .u8 (a.b 14), .int .u8 (a.b 15)], .bool v6] w fun e w' => e = .returned (.agg #[.bool v6, .int .u8 ((playAd a v6).b 0), .int .u8 ((playAd a v6).b 1), .int .u8 ((playAd a v6).b 2), .int .u8 ((playAd a v6).b 3), .int .u8 ((playAd a v6).b 4), .int .u8 ((playAd a v6).b 5), .int .u8 ((playAd a v6).b 6), .int .u8 ((playAd a v6).b 7), .int .u8 ((playAd a v6).b 8), .int .u8 ((playAd a v6).b 9), .int .u8 ((playAd a v6).b 10), .int .u8 ((playAd a v6).b 11), .int .u8 ((playAd a v6).b 12), .int .u8 ((playAd a v6).b 13), .int .u8 ((playAd a v6).b 14), .int .u8 ((playAd a v6).b 15)]) ∧ Below w.heap.size w w' := by
  obtain ⟨v, b⟩ := a
  have HB0 := Kp.mk (((Below.refl w.heap.size w).alloc (Nat.le_refl _) (.cells #[.bool v6, .int .u8 (b 0), .int .u8 (b 1), .int .u8 (b 2), .int .u8 (b 3), .int .u8 (b 4), .int .u8 (b 5), .int .u8 (b 6), .int .u8 (b 7), .int .u8 (b 8), .int .u8 (b 9), .int .u8 (b 10), .int .u8 (b 11), .int .u8 (b 12), .int .u8 (b 13), .int .u8 (b 14), .int .u8 (b 15)] 26)).alloc (by simp) (.cells (adC Ad.zero).toArray 26))
  cases v6
  · show Calls Tryz.prog 126 #[.agg #[.bool v, .int .u8 (b 0), .int .u8 (b 1), .int .u8 (b 2), .int .u8 (b 3), .int .u8 (b 4), .int .u8 (b 5), .int .u8 (b 6), .int .u8 (b 7), .int .u8 (b 8), .int .u8 (b 9), .int .u8 (b 10), .int .u8 (b 11), .int .u8 (b 12), .int .u8 (b 13), .int .u8 (b 14), .int .u8 (b 15)], .bool false] w fun e w' => e = .returned (.agg #[.bool false, .int .u8 (b 0), .int .u8 (b 1), .int .u8 (b 2), .int .u8 (b 3), .int .u8 0, .int .u8 0, .int .u8 0, .int .u8 0, .int .u8 0, .int .u8 0, .int .u8 0, .int .u8 0, .int .u8 0, .int .u8 0, .int .u8 0, .int .u8 0]) ∧ Below w.heap.size w w'
    go_enter Tryz.func126, Tryz.ntmps126
    go_wp2_with (fail)
    go_loopw [5] (fun i wr => ∃ k : Nat, 4 ≤ k ∧ k ≤ 16 ∧ i = .int .i64 k ∧ Kp (Below w.heap.size w wr) ∧ Kp (wr.heap[w.heap.size]? = some (.cells (adC ⟨false, zeroTo b k⟩).toArray 26 (0, 0))) ∧ Kp (wr.heap[w.heap.size + 1]? = some (.cells (adC Ad.zero).toArray 26 (0, 0)))) (fun i _ => 16 - (intOf i).toNat)
    case atStart =>
      obtain ⟨t0, t1, t2⟩ := two_new w (.cells #[.bool false, .int .u8 (b 0), .int .u8 (b 1), .int .u8 (b 2), .int .u8 (b 3), .int .u8 (b 4), .int .u8 (b 5), .int .u8 (b 6), .int .u8 (b 7), .int .u8 (b 8), .int .u8 (b 9), .int .u8 (b 10), .int .u8 (b 11), .int .u8 (b 12), .int .u8 (b 13), .int .u8 (b 14), .int .u8 (b 15)] 26) (.cells (adC Ad.zero).toArray 26)
      exact ⟨4, by decide, by decide, rfl, HB0, ⟨t0⟩, ⟨t1⟩⟩
    case round =>
      obtain ⟨k, hk4, hk, rfl, HB, Hk, Hr⟩ := hrel
      by_cases hlt : k < 16
      · have hc := (blk_cell Hk.out (1 + k)).trans (adC_get false (zeroTo b k) k hlt)
        have hf := blk_frozen Hk.out (1 + k)
        have hn := blk_put Hk.out (1 + k) (.int .u8 0) (zero_step false (zeroTo b k) k hlt)
        rw [zeroTo_succ b k hk4] at hn
        have HN := Kp.mk hn
        have HR := Kp.mk (blk_far (p := ⟨w.heap.size, 1 + k, none⟩) Hr.out (by simp) (.int .u8 0))
        have HB2 := Kp.mk (HB.out.setCell (p := ⟨w.heap.size, 1 + k, none⟩) (Nat.le_refl _) (.int .u8 0))
        have i1 : (k : Int) < 16 := by omega
        have i0 : (0 : Int) ≤ (k : Int) := by omega
        clear hn
        go_wp2
        exact ⟨⟨k + 1, by omega, by omega, by go_num, HB2, HN, HR⟩, by simp [intOf]; omega⟩
      · obtain rfl : k = 16 := by omega
        clear hlt
        go_wp2_with (first | (with_reducible refine ld_blk rfl 26 (.tmp 2) rfl w.heap.size rfl Hk Tryz.underlying26 rfl (by kernel_rfl) ?_) | (with_reducible refine st_blk (w0 := w) (base := w.heap.size) rfl 26 (.tmp 4) (.tmp 19) rfl rfl (w.heap.size + 1) _ rfl rfl Hr (by kernel_rfl) (by kernel_rfl) (by kernel_rfl) HB (Nat.le_succ _) ?_))
        intro w2 Hg2 HO2 HB2 hs2
        clear hs2
        go_wp2
        refine bodyPost_ret (results_cell_row rfl _ _ (w.heap.size + 1) _ _ (0, 0) _ rfl Hg2.out Tryz.underlying26 rfl (by kernel_rfl)) rfl ?_
        exact ⟨rfl, HB2.out⟩
  · show Calls Tryz.prog 126 #[.agg #[.bool v, .int .u8 (b 0), .int .u8 (b 1), .int .u8 (b 2), .int .u8 (b 3), .int .u8 (b 4), .int .u8 (b 5), .int .u8 (b 6), .int .u8 (b 7), .int .u8 (b 8), .int .u8 (b 9), .int .u8 (b 10), .int .u8 (b 11), .int .u8 (b 12), .int .u8 (b 13), .int .u8 (b 14), .int .u8 (b 15)], .bool true] w fun e w' => e = .returned (.agg #[.bool true, .int .u8 (b 0), .int .u8 (b 1), .int .u8 (b 2), .int .u8 (b 3), .int .u8 (b 4), .int .u8 (b 5), .int .u8 (b 6), .int .u8 (b 7), .int .u8 (b 8), .int .u8 (b 9), .int .u8 (b 10), .int .u8 (b 11), .int .u8 (b 12), .int .u8 (b 13), .int .u8 (b 14), .int .u8 (b 15)]) ∧ Below w.heap.size w w'
    go_enter Tryz.func126, Tryz.ntmps126
    go_wp2_with (fail)
    refine wp_loop_rounds 1 ?_
    rw [rounds_succ]
    go_wp2
    refine bodyPost_ret (results_cell_row rfl _ _ (w.heap.size + 1) _ _ (0, 0) _ rfl (two_new w (.cells #[.bool true, .int .u8 (b 0), .int .u8 (b 1), .int .u8 (b 2), .int .u8 (b 3), .int .u8 (b 4), .int .u8 (b 5), .int .u8 (b 6), .int .u8 (b 7), .int .u8 (b 8), .int .u8 (b 9), .int .u8 (b 10), .int .u8 (b 11), .int .u8 (b 12), .int .u8 (b 13), .int .u8 (b 14), .int .u8 (b 15)] 26) (.cells #[.bool true, .int .u8 (b 0), .int .u8 (b 1), .int .u8 (b 2), .int .u8 (b 3), .int .u8 (b 4), .int .u8 (b 5), .int .u8 (b 6), .int .u8 (b 7), .int .u8 (b 8), .int .u8 (b 9), .int .u8 (b 10), .int .u8 (b 11), .int .u8 (b 12), .int .u8 (b 13), .int .u8 (b 14), .int .u8 (b 15)] 26)).2.1 Tryz.underlying26 rfl (by kernel_rfl)) rfl ?_
    exact ⟨rfl, ((Below.refl w.heap.size w).alloc (Nat.le_refl _) _).alloc (by simp) _⟩
end Go.Proofs.YtlkneoednkhleaaGreatDoor

namespace Go.Proofs.YtlkneoednkhleaaGreatDoor
open Go.RowKit Go.Proofs.YtlkneoednkhleaaGreatDoorW.PrintWords
set_option linter.unusedVariables false
set_option linter.unusedSimpArgs false
set_option maxRecDepth 100000
set_option maxHeartbeats 8000000

/-- A record that may be written, out of any. -/
def playR (r : Rec) : Rec :=
  ⟨playN r.name, portV r.typ, portV r.cls, r.ttl, if portV r.typ = 1 ∨ portV r.typ = 28 then playAd r.ad (decide (portV r.typ = 28)) else Ad.zero, if portV r.typ = 5 then playN r.tgt else [],
    if portV r.typ = 1 ∨ portV r.typ = 28 ∨ portV r.typ = 5 then [] else r.data.take 40⟩
theorem playAd_right (a : Ad) (v : Bool) : (playAd a v).right = true := by
  cases v
  · have h : (playAd a false).l.drop 4 = [0, 0, 0, 0, 0, 0, 0, 0, 0, 0, 0, 0] := rfl
    unfold Ad.right
    rw [h]
    rfl
  · rfl
theorem playR_right (r : Rec) : (playR r).right = true := by
  have h1 := (playN_right r.name).1
  have h2 := portV_range r.typ
  have h3 := portV_range r.cls
  have hq : Qu.right ⟨playN r.name, portV r.typ, portV r.cls⟩ = true := by simp [Qu.right, h1, within, h2, h3]
  have hn : rightL [] = true := by decide +kernel
  have hz : Ad.plain Ad.zero = true := by decide +kernel
  unfold Rec.right playR
  dsimp only
  rw [hq, Bool.true_and]
  unfold Rec.tail
  dsimp only
  by_cases t1 : portV r.typ = 1 ∨ portV r.typ = 28
  · have t5 : ¬ portV r.typ = 5 := by omega
    have ht : portV r.typ = 1 ∨ portV r.typ = 28 ∨ portV r.typ = 5 := by omega
    rw [if_pos t1, if_neg t5, if_pos ht, if_pos t1, hn, playAd_right]
    simp [playAd]
  · rw [if_neg t1, if_neg t1]
    by_cases t5 : portV r.typ = 5
    · have ht : portV r.typ = 1 ∨ portV r.typ = 28 ∨ portV r.typ = 5 := by omega
      rw [if_pos t5, if_pos ht, if_pos t5, (playN_right r.tgt).1, hz]
      simp
    · have ht : ¬ (portV r.typ = 1 ∨ portV r.typ = 28 ∨ portV r.typ = 5) := by omega
      rw [if_neg t5, if_neg ht, if_neg t5, hn, hz]
      simp
      omega
theorem playnameB (l : L) (w : World) (hs : l.length ≤ 9223372036854775807) : Calls Tryz.prog 36 #[.string (mkB l)] w fun e w' => e = .returned (.string (mkB (playN l))) ∧ Below w.heap.size w w' := playname_calls (mkB l) w hs
theorem cell_held {w : World} {o : Obj} {a : Addr} {v : Value} (hlt : a.block < w.heap.size) (h : w.cell? a = some v) : (w.alloc o).cell? a = some v := (World.cell?_alloc_lt _ _ _ hlt).trans h
theorem cell_heldB {w : World} {o : Obj} {a : Addr} {v : Value} (h : w.cell? a = some v) : (w.alloc o).cell? a = some v := cell_held (World.block_lt_of_cell? w a h) h
theorem cell_rowB {w : World} {o : Obj} {cs : Array Value} {a : Addr} {v : Value} (h : w.cell? a = some v) : ((w.alloc o).setRow w.heap.size cs).cell? a = some v := (cell_setRow_other _ _ _ _ (Nat.ne_of_lt (World.block_lt_of_cell? w a h))).trans (cell_heldB h)
theorem cell_rowA {w : World} {n i : Nat} {cs : Array Value} {v : Value} (h : w.cell? ⟨n, i, none⟩ = some v) : (w.setRow (n + 1 + 1) cs).cell? ⟨n, i, none⟩ = some v := (cell_setRow_other _ _ _ _ (by show n ≠ n + 1 + 1; omega)).trans h
theorem heap3 (w : World) (o1 o2 o : Obj) : (((w.alloc o1).alloc o2).alloc o).heap[w.heap.size + 1 + 1]? = some o := by
  have h1 := heap_new ((w.alloc o1).alloc o2) o
  have h3 : ((w.alloc o1).alloc o2).heap.size = w.heap.size + 1 + 1 := by simp
  rw [h3] at h1
  exact h1
theorem newA {W w3 : World} {g : Nat} {o : Obj} (h : Below W.heap.size W w3) (hg : W.heap[g]? = some o) : w3.heap[g]? = some o := (h.block _ (heap_lt hg)).trans hg
theorem put_rec (W : World) (g : Nat) (n : L) (t c l : Int) (hg : W.heap[g]? = some (.cells #[.string ⟨#[]⟩, .int .i64 0, .int .i64 0, .int .u32 0, .bool false, .int .u8 0, .int .u8 0, .int .u8 0, .int .u8 0, .int .u8 0, .int .u8 0, .int .u8 0, .int .u8 0, .int .u8 0, .int .u8 0, .int .u8 0, .int .u8 0, .int .u8 0, .int .u8 0, .int .u8 0, .int .u8 0, .string ⟨#[]⟩, .slice none 0 0] 28 (0, 0))) :
    (storeCells ⟨g, 0, none⟩ [.string (mkB n), .int .i64 t, .int .i64 c, .int .u32 l, .bool false, .int .u8 0, .int .u8 0, .int .u8 0, .int .u8 0, .int .u8 0, .int .u8 0, .int .u8 0, .int .u8 0, .int .u8 0, .int .u8 0, .int .u8 0, .int .u8 0, .int .u8 0, .int .u8 0, .int .u8 0, .int .u8 0, .string ⟨#[]⟩, .slice none 0 0] 0).run Tryz.prog W = .ok () (W.setRow g #[.string (mkB n), .int .i64 t, .int .i64 c, .int .u32 l, .bool false, .int .u8 0, .int .u8 0, .int .u8 0, .int .u8 0, .int .u8 0, .int .u8 0, .int .u8 0, .int .u8 0, .int .u8 0, .int .u8 0, .int .u8 0, .int .u8 0, .int .u8 0, .int .u8 0, .int .u8 0, .int .u8 0, .string ⟨#[]⟩, .slice none 0 0]) :=
  run_storeCells_from (P := Tryz.prog) g 28 [.string (mkB n), .int .i64 t, .int .i64 c, .int .u32 l, .bool false, .int .u8 0, .int .u8 0, .int .u8 0, .int .u8 0, .int .u8 0, .int .u8 0, .int .u8 0, .int .u8 0, .int .u8 0, .int .u8 0, .int .u8 0, .int .u8 0, .int .u8 0, .int .u8 0, .int .u8 0, .int .u8 0, .string ⟨#[]⟩, .slice none 0 0] 0 _ W hg rfl (fun v hv => by
    simp only [List.mem_cons, List.not_mem_nil, or_false] at hv
    rcases hv with rfl | rfl | rfl | rfl | rfl | rfl | rfl | rfl | rfl | rfl | rfl | rfl | rfl | rfl | rfl | rfl | rfl | rfl | rfl | rfl | rfl | rfl | rfl <;> rfl)
theorem heap_alloc_lt (w : World) (o : Obj) (k : Nat) (h : k < w.heap.size) : (w.alloc o).heap[k]? = w.heap[k]? := ((Below.refl w.heap.size w).alloc (Nat.le_refl _) o).block k h
structure PSt (w W : World) (g : Nat) (box : Array Value) (n : L) (t c l : Int) : Prop where
  hb : W.heap[w.heap.size]? = some (.cells box 28 (0, 0))
  hz : W.heap[w.heap.size + 1]? = some (.cells #[.string ⟨#[]⟩, .int .i64 0, .int .i64 0, .int .u32 0, .bool false, .int .u8 0, .int .u8 0, .int .u8 0, .int .u8 0, .int .u8 0, .int .u8 0, .int .u8 0, .int .u8 0, .int .u8 0, .int .u8 0, .int .u8 0, .int .u8 0, .int .u8 0, .int .u8 0, .int .u8 0, .int .u8 0, .string ⟨#[]⟩, .slice none 0 0] 28 (0, 0))
  hg : W.heap[g]? = some (.cells #[.string (mkB n), .int .i64 t, .int .i64 c, .int .u32 l, .bool false, .int .u8 0, .int .u8 0, .int .u8 0, .int .u8 0, .int .u8 0, .int .u8 0, .int .u8 0, .int .u8 0, .int .u8 0, .int .u8 0, .int .u8 0, .int .u8 0, .int .u8 0, .int .u8 0, .int .u8 0, .int .u8 0, .string ⟨#[]⟩, .slice none 0 0] 28 (0, 0))
  lt : w.heap.size + 1 < g
  be : Below w.heap.size w W
theorem psA {w W1 w3 : World} {box : Array Value} (n : L) (t c l : Int) (h : Below W1.heap.size W1 w3) (h1 : W1.heap = (((w.alloc (.cells box 28)).alloc (.cells #[.string ⟨#[]⟩, .int .i64 0, .int .i64 0, .int .u32 0, .bool false, .int .u8 0, .int .u8 0, .int .u8 0, .int .u8 0, .int .u8 0, .int .u8 0, .int .u8 0, .int .u8 0, .int .u8 0, .int .u8 0, .int .u8 0, .int .u8 0, .int .u8 0, .int .u8 0, .int .u8 0, .int .u8 0, .string ⟨#[]⟩, .slice none 0 0] 28)).alloc (.cells #[.string ⟨#[]⟩, .int .i64 0, .int .i64 0, .int .u32 0, .bool false, .int .u8 0, .int .u8 0, .int .u8 0, .int .u8 0, .int .u8 0, .int .u8 0, .int .u8 0, .int .u8 0, .int .u8 0, .int .u8 0, .int .u8 0, .int .u8 0, .int .u8 0, .int .u8 0, .int .u8 0, .int .u8 0, .string ⟨#[]⟩, .slice none 0 0] 28)).heap) (h2 : W1.os = w.os) (h3 : W1.tape = w.tape) (h4 : W1.output = w.output) :
    PSt w (w3.setRow (w.heap.size + 1 + 1) #[.string (mkB n), .int .i64 t, .int .i64 c, .int .u32 l, .bool false, .int .u8 0, .int .u8 0, .int .u8 0, .int .u8 0, .int .u8 0, .int .u8 0, .int .u8 0, .int .u8 0, .int .u8 0, .int .u8 0, .int .u8 0, .int .u8 0, .int .u8 0, .int .u8 0, .int .u8 0, .int .u8 0, .string ⟨#[]⟩, .slice none 0 0]) (w.heap.size + 1 + 1) box n t c l := by
  obtain ⟨t0, t1, tb⟩ := two_new w (.cells box 28) (.cells #[.string ⟨#[]⟩, .int .i64 0, .int .i64 0, .int .u32 0, .bool false, .int .u8 0, .int .u8 0, .int .u8 0, .int .u8 0, .int .u8 0, .int .u8 0, .int .u8 0, .int .u8 0, .int .u8 0, .int .u8 0, .int .u8 0, .int .u8 0, .int .u8 0, .int .u8 0, .int .u8 0, .int .u8 0, .string ⟨#[]⟩, .slice none 0 0] 28)
  have hs2 : ((w.alloc (.cells box 28)).alloc (.cells #[.string ⟨#[]⟩, .int .i64 0, .int .i64 0, .int .u32 0, .bool false, .int .u8 0, .int .u8 0, .int .u8 0, .int .u8 0, .int .u8 0, .int .u8 0, .int .u8 0, .int .u8 0, .int .u8 0, .int .u8 0, .int .u8 0, .int .u8 0, .int .u8 0, .int .u8 0, .int .u8 0, .int .u8 0, .string ⟨#[]⟩, .slice none 0 0] 28)).heap.size = w.heap.size + 1 + 1 := by simp
  have hs3 : W1.heap.size = w.heap.size + 3 := by rw [h1]; simp
  have q := heap3 w (.cells box 28) (.cells #[.string ⟨#[]⟩, .int .i64 0, .int .i64 0, .int .u32 0, .bool false, .int .u8 0, .int .u8 0, .int .u8 0, .int .u8 0, .int .u8 0, .int .u8 0, .int .u8 0, .int .u8 0, .int .u8 0, .int .u8 0, .int .u8 0, .int .u8 0, .int .u8 0, .int .u8 0, .int .u8 0, .int .u8 0, .string ⟨#[]⟩, .slice none 0 0] 28) (.cells #[.string ⟨#[]⟩, .int .i64 0, .int .i64 0, .int .u32 0, .bool false, .int .u8 0, .int .u8 0, .int .u8 0, .int .u8 0, .int .u8 0, .int .u8 0, .int .u8 0, .int .u8 0, .int .u8 0, .int .u8 0, .int .u8 0, .int .u8 0, .int .u8 0, .int .u8 0, .int .u8 0, .int .u8 0, .string ⟨#[]⟩, .slice none 0 0] 28)
  have b3 := tb.alloc (by rw [hs2]; omega) (.cells #[.string ⟨#[]⟩, .int .i64 0, .int .i64 0, .int .u32 0, .bool false, .int .u8 0, .int .u8 0, .int .u8 0, .int .u8 0, .int .u8 0, .int .u8 0, .int .u8 0, .int .u8 0, .int .u8 0, .int .u8 0, .int .u8 0, .int .u8 0, .int .u8 0, .int .u8 0, .int .u8 0, .int .u8 0, .string ⟨#[]⟩, .slice none 0 0] 28)
  have k0 : W1.heap[w.heap.size]? = some (.cells box 28) := by rw [h1, heap_alloc_lt _ _ _ (by rw [hs2]; omega)]; exact t0
  have k1 : W1.heap[w.heap.size + 1]? = some (.cells #[.string ⟨#[]⟩, .int .i64 0, .int .i64 0, .int .u32 0, .bool false, .int .u8 0, .int .u8 0, .int .u8 0, .int .u8 0, .int .u8 0, .int .u8 0, .int .u8 0, .int .u8 0, .int .u8 0, .int .u8 0, .int .u8 0, .int .u8 0, .int .u8 0, .int .u8 0, .int .u8 0, .int .u8 0, .string ⟨#[]⟩, .slice none 0 0] 28) := by rw [h1, heap_alloc_lt _ _ _ (by rw [hs2]; omega)]; exact t1
  have k2 : W1.heap[w.heap.size + 1 + 1]? = some (.cells #[.string ⟨#[]⟩, .int .i64 0, .int .i64 0, .int .u32 0, .bool false, .int .u8 0, .int .u8 0, .int .u8 0, .int .u8 0, .int .u8 0, .int .u8 0, .int .u8 0, .int .u8 0, .int .u8 0, .int .u8 0, .int .u8 0, .int .u8 0, .int .u8 0, .int .u8 0, .int .u8 0, .int .u8 0, .string ⟨#[]⟩, .slice none 0 0] 28) := by rw [h1]; exact q
  have j0 := newA h k0
  have j1 := newA h k1
  have j2 := newA h k2
  have hBW : Below w.heap.size w W1 := ⟨h2, h3, h4, by omega, fun k hk => by rw [h1]; exact b3.block k hk⟩
  have hB := hBW.trans (h.mono (by omega))
  exact ⟨(setRow_other _ _ _ _ (by omega)).trans j0, (setRow_other _ _ _ _ (by omega)).trans j1, setRow_heap _ _ _ _ _ _ j2, by omega, ⟨hB.os, hB.tape, hB.output, by rw [size_setRow]; exact hB.size, fun k hk => (setRow_other _ _ _ _ (by omega)).trans (hB.block k hk)⟩⟩
theorem psB {w W1 w3 : World} {box : Array Value} (n : L) (t c l : Int) (h : Below W1.heap.size W1 w3) (h1 : W1.heap = ((w.alloc (.cells box 28)).alloc (.cells #[.string ⟨#[]⟩, .int .i64 0, .int .i64 0, .int .u32 0, .bool false, .int .u8 0, .int .u8 0, .int .u8 0, .int .u8 0, .int .u8 0, .int .u8 0, .int .u8 0, .int .u8 0, .int .u8 0, .int .u8 0, .int .u8 0, .int .u8 0, .int .u8 0, .int .u8 0, .int .u8 0, .int .u8 0, .string ⟨#[]⟩, .slice none 0 0] 28)).heap) (h2 : W1.os = w.os) (h3 : W1.tape = w.tape) (h4 : W1.output = w.output) :
    PSt w ((w3.alloc (.cells #[.string ⟨#[]⟩, .int .i64 0, .int .i64 0, .int .u32 0, .bool false, .int .u8 0, .int .u8 0, .int .u8 0, .int .u8 0, .int .u8 0, .int .u8 0, .int .u8 0, .int .u8 0, .int .u8 0, .int .u8 0, .int .u8 0, .int .u8 0, .int .u8 0, .int .u8 0, .int .u8 0, .int .u8 0, .string ⟨#[]⟩, .slice none 0 0] 28)).setRow w3.heap.size #[.string (mkB n), .int .i64 t, .int .i64 c, .int .u32 l, .bool false, .int .u8 0, .int .u8 0, .int .u8 0, .int .u8 0, .int .u8 0, .int .u8 0, .int .u8 0, .int .u8 0, .int .u8 0, .int .u8 0, .int .u8 0, .int .u8 0, .int .u8 0, .int .u8 0, .int .u8 0, .int .u8 0, .string ⟨#[]⟩, .slice none 0 0]) w3.heap.size box n t c l := by
  obtain ⟨t0, t1, tb⟩ := two_new w (.cells box 28) (.cells #[.string ⟨#[]⟩, .int .i64 0, .int .i64 0, .int .u32 0, .bool false, .int .u8 0, .int .u8 0, .int .u8 0, .int .u8 0, .int .u8 0, .int .u8 0, .int .u8 0, .int .u8 0, .int .u8 0, .int .u8 0, .int .u8 0, .int .u8 0, .int .u8 0, .int .u8 0, .int .u8 0, .int .u8 0, .string ⟨#[]⟩, .slice none 0 0] 28)
  have hs2 : W1.heap.size = w.heap.size + 1 + 1 := by rw [h1]; simp
  have k0 : W1.heap[w.heap.size]? = some (.cells box 28) := by rw [h1]; exact t0
  have k1 : W1.heap[w.heap.size + 1]? = some (.cells #[.string ⟨#[]⟩, .int .i64 0, .int .i64 0, .int .u32 0, .bool false, .int .u8 0, .int .u8 0, .int .u8 0, .int .u8 0, .int .u8 0, .int .u8 0, .int .u8 0, .int .u8 0, .int .u8 0, .int .u8 0, .int .u8 0, .int .u8 0, .int .u8 0, .int .u8 0, .int .u8 0, .int .u8 0, .string ⟨#[]⟩, .slice none 0 0] 28) := by rw [h1]; exact t1
  have j0 := newA h k0
  have j1 := newA h k1
  have hsz := h.size
  have hBW : Below w.heap.size w W1 := ⟨h2, h3, h4, by omega, fun k hk => by rw [h1]; exact tb.block k hk⟩
  have hB := (hBW.trans (h.mono (by omega))).alloc (by omega) (.cells #[.string ⟨#[]⟩, .int .i64 0, .int .i64 0, .int .u32 0, .bool false, .int .u8 0, .int .u8 0, .int .u8 0, .int .u8 0, .int .u8 0, .int .u8 0, .int .u8 0, .int .u8 0, .int .u8 0, .int .u8 0, .int .u8 0, .int .u8 0, .int .u8 0, .int .u8 0, .int .u8 0, .int .u8 0, .string ⟨#[]⟩, .slice none 0 0] 28)
  exact ⟨(setRow_other _ _ _ _ (by omega)).trans ((heap_alloc_lt _ _ _ (by omega)).trans j0), (setRow_other _ _ _ _ (by omega)).trans ((heap_alloc_lt _ _ _ (by omega)).trans j1), setRow_heap _ _ _ _ _ _ (heap_new _ _), by omega, ⟨hB.os, hB.tape, hB.output, by rw [size_setRow]; exact hB.size, fun k hk => (setRow_other _ _ _ _ (by omega)).trans (hB.block k hk)⟩⟩
def PlayRPost (r : Rec) (w : World) (e : Ending) (w' : World) : Prop :=
  ∃ A c, e = .returned (.agg (recA r (.slice A r.data.length c))) ∧ (Kd.int .u8).R 5 w' w.heap.size (fun _ => True) (.slice A r.data.length c) r.data ∧ Below w.heap.size w w'
theorem playRec_calls (r : Rec) (A : Option Addr) (c : Nat) (w : World) (h : (Kd.int .u8).C w A r.data.length r.data) (hc : r.data.length ≤ c) (hn : r.name.length ≤ 9223372036854775807) (htg : r.tgt.length ≤ 9223372036854775807) :
    Calls Tryz.prog 109 #[.agg (recA r (.slice A r.data.length c))] w (PlayRPost (playR r) w) := by
  obtain ⟨rn, rt, rc, rl, ⟨v6, b⟩, rtg, rd⟩ := r
  have HC := Kp.mk h
  have HB0 := Kp.mk (((Below.refl w.heap.size w).alloc (Nat.le_refl _) (.cells #[.string (mkB rn), .int .i64 rt, .int .i64 rc, .int .u32 rl, .bool v6, .int .u8 (b 0), .int .u8 (b 1), .int .u8 (b 2), .int .u8 (b 3), .int .u8 (b 4), .int .u8 (b 5), .int .u8 (b 6), .int .u8 (b 7), .int .u8 (b 8), .int .u8 (b 9), .int .u8 (b 10), .int .u8 (b 11), .int .u8 (b 12), .int .u8 (b 13), .int .u8 (b 14), .int .u8 (b 15), .string (mkB rtg), .slice A rd.length c] 28)).alloc (by simp) (.cells #[.string ⟨#[]⟩, .int .i64 0, .int .i64 0, .int .u32 0, .bool false, .int .u8 0, .int .u8 0, .int .u8 0, .int .u8 0, .int .u8 0, .int .u8 0, .int .u8 0, .int .u8 0, .int .u8 0, .int .u8 0, .int .u8 0, .int .u8 0, .int .u8 0, .int .u8 0, .int .u8 0, .int .u8 0, .string ⟨#[]⟩, .slice none 0 0] 28))
  obtain ⟨t0, t1, -⟩ := two_new w (.cells #[.string (mkB rn), .int .i64 rt, .int .i64 rc, .int .u32 rl, .bool v6, .int .u8 (b 0), .int .u8 (b 1), .int .u8 (b 2), .int .u8 (b 3), .int .u8 (b 4), .int .u8 (b 5), .int .u8 (b 6), .int .u8 (b 7), .int .u8 (b 8), .int .u8 (b 9), .int .u8 (b 10), .int .u8 (b 11), .int .u8 (b 12), .int .u8 (b 13), .int .u8 (b 14), .int .u8 (b 15), .string (mkB rtg), .slice A rd.length c] 28) (.cells #[.string ⟨#[]⟩, .int .i64 0, .int .i64 0, .int .u32 0, .bool false, .int .u8 0, .int .u8 0, .int .u8 0, .int .u8 0, .int .u8 0, .int .u8 0, .int .u8 0, .int .u8 0, .int .u8 0, .int .u8 0, .int .u8 0, .int .u8 0, .int .u8 0, .int .u8 0, .int .u8 0, .int .u8 0, .string ⟨#[]⟩, .slice none 0 0] 28)
  have H0 := Kp.mk t0
  have H1 := Kp.mk t1
  have hpr := portV_range rt
  obtain ⟨pt, hpt⟩ : ∃ pt, portV rt = pt := ⟨_, rfl⟩
  have HPT := Kp.mk hpt
  rw [hpt] at hpr
  obtain ⟨pc, hpc⟩ : ∃ pc, portV rc = pc := ⟨_, rfl⟩
  have HPC := Kp.mk hpc
  obtain ⟨pn, hpn⟩ : ∃ pn, playN rn = pn := ⟨_, rfl⟩
  have HPN := Kp.mk hpn
  have hP : playR ⟨rn, rt, rc, rl, ⟨v6, b⟩, rtg, rd⟩ = ⟨pn, pt, pc, rl, if pt = 1 ∨ pt = 28 then playAd ⟨v6, b⟩ (decide (pt = 28)) else Ad.zero, if pt = 5 then playN rtg else [], if pt = 1 ∨ pt = 28 ∨ pt = 5 then [] else rd.take 40⟩ := by
    unfold playR
    dsimp only
    rw [hpt, hpc, hpn]
  obtain ⟨pr, hpr2⟩ : ∃ pr, playR ⟨rn, rt, rc, rl, ⟨v6, b⟩, rtg, rd⟩ = pr := ⟨_, rfl⟩
  rw [hpr2] at hP ⊢
  have HP := Kp.mk hP
  have c0 : _ = some (Value.string (mkB rn)) := blk_cell t0 0
  have c1 : _ = some (Value.int .i64 rt) := blk_cell t0 1
  have c2 : _ = some (Value.int .i64 rc) := blk_cell t0 2
  have c3 : _ = some (Value.int .u32 rl) := blk_cell t0 3
  have CC := Kp.mk (And.intro c0 (And.intro c1 (And.intro c2 c3)))
  have HPQ : Kp (∀ W, Calls Tryz.prog 73 #[.int .i64 rt] W fun e w' => e = .returned (.int .i64 pt) ∧ W = w') := ⟨fun W => hpt ▸ port_calls rt W⟩
  have HPR : Kp (∀ W, Calls Tryz.prog 73 #[.int .i64 rc] W fun e w' => e = .returned (.int .i64 pc) ∧ W = w') := ⟨fun W => hpc ▸ port_calls rc W⟩
  have HPS : Kp (∀ W, Calls Tryz.prog 36 #[.string (mkB rn)] W fun e w' => e = .returned (.string (mkB pn)) ∧ Below W.heap.size W w') := ⟨fun W => hpn ▸ playnameB rn W hn⟩
  clear h hP hpt hpc hpn t0 t1 hpr2
  dsimp only at hc htg
  show Calls Tryz.prog 109 #[.agg #[.string (mkB rn), .int .i64 rt, .int .i64 rc, .int .u32 rl, .bool v6, .int .u8 (b 0), .int .u8 (b 1), .int .u8 (b 2), .int .u8 (b 3), .int .u8 (b 4), .int .u8 (b 5), .int .u8 (b 6), .int .u8 (b 7), .int .u8 (b 8), .int .u8 (b 9), .int .u8 (b 10), .int .u8 (b 11), .int .u8 (b 12), .int .u8 (b 13), .int .u8 (b 14), .int .u8 (b 15), .string (mkB rtg), .slice A rd.length c]] w _
  go_enter Tryz.func109, Tryz.ntmps109
  go_wp2_with (fail)
  obtain ⟨X, hX, hXr, hXn⟩ : ∃ X : Addr → List Value → Nat → Sem Unit, (∀ p l, storeCells p l 0 = X p l 0) ∧ (∀ (W : World) (g : Nat) (n : L) (t c l : Int), W.heap[g]? = some (.cells #[.string ⟨#[]⟩, .int .i64 0, .int .i64 0, .int .u32 0, .bool false, .int .u8 0, .int .u8 0, .int .u8 0, .int .u8 0, .int .u8 0, .int .u8 0, .int .u8 0, .int .u8 0, .int .u8 0, .int .u8 0, .int .u8 0, .int .u8 0, .int .u8 0, .int .u8 0, .int .u8 0, .int .u8 0, .string ⟨#[]⟩, .slice none 0 0] 28 (0, 0)) → (X ⟨g, 0, none⟩ [.string (mkB n), .int .i64 t, .int .i64 c, .int .u32 l, .bool false, .int .u8 0, .int .u8 0, .int .u8 0, .int .u8 0, .int .u8 0, .int .u8 0, .int .u8 0, .int .u8 0, .int .u8 0, .int .u8 0, .int .u8 0, .int .u8 0, .int .u8 0, .int .u8 0, .int .u8 0, .int .u8 0, .string ⟨#[]⟩, .slice none 0 0] 0).run Tryz.prog W = .ok () (W.setRow g #[.string (mkB n), .int .i64 t, .int .i64 c, .int .u32 l, .bool false, .int .u8 0, .int .u8 0, .int .u8 0, .int .u8 0, .int .u8 0, .int .u8 0, .int .u8 0, .int .u8 0, .int .u8 0, .int .u8 0, .int .u8 0, .int .u8 0, .int .u8 0, .int .u8 0, .int .u8 0, .int .u8 0, .string ⟨#[]⟩, .slice none 0 0])) ∧
      (∀ (W : World) (n : L) (t c l : Int), (X ⟨W.heap.size, 0, none⟩ [.string (mkB n), .int .i64 t, .int .i64 c, .int .u32 l, .bool false, .int .u8 0, .int .u8 0, .int .u8 0, .int .u8 0, .int .u8 0, .int .u8 0, .int .u8 0, .int .u8 0, .int .u8 0, .int .u8 0, .int .u8 0, .int .u8 0, .int .u8 0, .int .u8 0, .int .u8 0, .int .u8 0, .string ⟨#[]⟩, .slice none 0 0] 0).run Tryz.prog (W.alloc (.cells #[.string ⟨#[]⟩, .int .i64 0, .int .i64 0, .int .u32 0, .bool false, .int .u8 0, .int .u8 0, .int .u8 0, .int .u8 0, .int .u8 0, .int .u8 0, .int .u8 0, .int .u8 0, .int .u8 0, .int .u8 0, .int .u8 0, .int .u8 0, .int .u8 0, .int .u8 0, .int .u8 0, .int .u8 0, .string ⟨#[]⟩, .slice none 0 0] 28)) = .ok () ((W.alloc (.cells #[.string ⟨#[]⟩, .int .i64 0, .int .i64 0, .int .u32 0, .bool false, .int .u8 0, .int .u8 0, .int .u8 0, .int .u8 0, .int .u8 0, .int .u8 0, .int .u8 0, .int .u8 0, .int .u8 0, .int .u8 0, .int .u8 0, .int .u8 0, .int .u8 0, .int .u8 0, .int .u8 0, .int .u8 0, .string ⟨#[]⟩, .slice none 0 0] 28)).setRow W.heap.size #[.string (mkB n), .int .i64 t, .int .i64 c, .int .u32 l, .bool false, .int .u8 0, .int .u8 0, .int .u8 0, .int .u8 0, .int .u8 0, .int .u8 0, .int .u8 0, .int .u8 0, .int .u8 0, .int .u8 0, .int .u8 0, .int .u8 0, .int .u8 0, .int .u8 0, .int .u8 0, .int .u8 0, .string ⟨#[]⟩, .slice none 0 0])) := ⟨fun a l i => storeCells a l i, fun _ _ => rfl, put_rec, fun W n t c l => put_rec _ _ n t c l (heap_new W _)⟩
  go_region_held3 (fun w' => w'.cell? ⟨w.heap.size, 0, none⟩ = some (.string (mkB rn)) ∧ w'.cell? ⟨w.heap.size, 1, none⟩ = some (.int .i64 rt) ∧ w'.cell? ⟨w.heap.size, 2, none⟩ = some (.int .i64 rc) ∧ w'.cell? ⟨w.heap.size, 3, none⟩ = some (.int .u32 rl)) (first | go_keep | exact ⟨pw_cell_below HB3.out CC.out.1, pw_cell_below HB3.out CC.out.2.1, pw_cell_below HB3.out CC.out.2.2.1, pw_cell_below HB3.out CC.out.2.2.2⟩ | exact ⟨cell_heldB (pw_cell_below HB3.out CC.out.1), cell_heldB (pw_cell_below HB3.out CC.out.2.1), cell_heldB (pw_cell_below HB3.out CC.out.2.2.1), cell_heldB (pw_cell_below HB3.out CC.out.2.2.2)⟩ | exact ⟨cell_heldB CC.out.1, cell_heldB CC.out.2.1, cell_heldB CC.out.2.2.1, cell_heldB CC.out.2.2.2⟩ | exact ⟨pw_cell_below HB3.out (cell_heldB CC.out.1), pw_cell_below HB3.out (cell_heldB CC.out.2.1), pw_cell_below HB3.out (cell_heldB CC.out.2.2.1), pw_cell_below HB3.out (cell_heldB CC.out.2.2.2)⟩ | exact ⟨cell_rowB (pw_cell_below HB3.out CC.out.1), cell_rowB (pw_cell_below HB3.out CC.out.2.1), cell_rowB (pw_cell_below HB3.out CC.out.2.2.1), cell_rowB (pw_cell_below HB3.out CC.out.2.2.2)⟩ | exact ⟨cell_rowA (pw_cell_below HB3.out (cell_heldB CC.out.1)), cell_rowA (pw_cell_below HB3.out (cell_heldB CC.out.2.1)), cell_rowA (pw_cell_below HB3.out (cell_heldB CC.out.2.2.1)), cell_rowA (pw_cell_below HB3.out (cell_heldB CC.out.2.2.2))⟩)
    (first
      | (go_at_call 36; (with_reducible refine (HPS.out _).mono ?_); rintro e3 w3 ⟨rfl, hb3⟩; have HB3 := Kp.mk hb3; (first | have hg3 := fun n t c l => hXr w3 _ n t c l (newA hb3 (heap3 w _ _ _)) | skip); clear hb3)
      | (go_at_call 73; (with_reducible refine (HPQ.out _).mono ?_); rintro e4 w4 ⟨rfl, rfl⟩)
      | (go_at_call 73; (with_reducible refine (HPR.out _).mono ?_); rintro e4 w4 ⟨rfl, rfl⟩))
  all_goals
    clear hX hXr hXn
    first
      | have hp := psB (box := #[.string (mkB rn), .int .i64 rt, .int .i64 rc, .int .u32 rl, .bool v6, .int .u8 (b 0), .int .u8 (b 1), .int .u8 (b 2), .int .u8 (b 3), .int .u8 (b 4), .int .u8 (b 5), .int .u8 (b 6), .int .u8 (b 7), .int .u8 (b 8), .int .u8 (b 9), .int .u8 (b 10), .int .u8 (b 11), .int .u8 (b 12), .int .u8 (b 13), .int .u8 (b 14), .int .u8 (b 15), .string (mkB rtg), .slice A rd.length c]) pn pt pc rl HB3.out rfl rfl rfl rfl
        generalize (w3.alloc (.cells #[.string ⟨#[]⟩, .int .i64 0, .int .i64 0, .int .u32 0, .bool false, .int .u8 0, .int .u8 0, .int .u8 0, .int .u8 0, .int .u8 0, .int .u8 0, .int .u8 0, .int .u8 0, .int .u8 0, .int .u8 0, .int .u8 0, .int .u8 0, .int .u8 0, .int .u8 0, .int .u8 0, .int .u8 0, .string ⟨#[]⟩, .slice none 0 0] 28)).setRow w3.heap.size #[.string (mkB pn), .int .i64 pt, .int .i64 pc, .int .u32 rl, .bool false, .int .u8 0, .int .u8 0, .int .u8 0, .int .u8 0, .int .u8 0, .int .u8 0, .int .u8 0, .int .u8 0, .int .u8 0, .int .u8 0, .int .u8 0, .int .u8 0, .int .u8 0, .int .u8 0, .int .u8 0, .int .u8 0, .string ⟨#[]⟩, .slice none 0 0] = W at hp ⊢
        generalize w3.heap.size = g at hp ⊢
      | have hp := psA (box := #[.string (mkB rn), .int .i64 rt, .int .i64 rc, .int .u32 rl, .bool v6, .int .u8 (b 0), .int .u8 (b 1), .int .u8 (b 2), .int .u8 (b 3), .int .u8 (b 4), .int .u8 (b 5), .int .u8 (b 6), .int .u8 (b 7), .int .u8 (b 8), .int .u8 (b 9), .int .u8 (b 10), .int .u8 (b 11), .int .u8 (b 12), .int .u8 (b 13), .int .u8 (b 14), .int .u8 (b 15), .string (mkB rtg), .slice A rd.length c]) pn pt pc rl HB3.out rfl rfl rfl rfl
        generalize w3.setRow (w.heap.size + 1 + 1) #[.string (mkB pn), .int .i64 pt, .int .i64 pc, .int .u32 rl, .bool false, .int .u8 0, .int .u8 0, .int .u8 0, .int .u8 0, .int .u8 0, .int .u8 0, .int .u8 0, .int .u8 0, .int .u8 0, .int .u8 0, .int .u8 0, .int .u8 0, .int .u8 0, .int .u8 0, .int .u8 0, .int .u8 0, .string ⟨#[]⟩, .slice none 0 0] = W at hp ⊢
        generalize w.heap.size + 1 + 1 = g at hp ⊢
    have HP0 := Kp.mk hp
    clear hp
  all_goals
    have HB := Kp.mk HP0.out.hb
    have HZ := Kp.mk HP0.out.hz
    have HG := Kp.mk HP0.out.hg
    have HBE := Kp.mk HP0.out.be
    have HLT : Kp (w.heap.size ≤ g) := ⟨Nat.le_of_lt (Nat.lt_of_succ_lt HP0.out.lt)⟩
    have HNE : Kp (w.heap.size + 1 ≠ g) := ⟨Nat.ne_of_lt HP0.out.lt⟩
    have d1 : _ = some (Value.int .i64 pt) := blk_cell HG.out 1
    clear HP0 CC H0 H1 HB0
  all_goals
    by_cases t1 : pt = 1
    · subst t1
      have e1 : pr = ⟨pn, 1, pc, rl, playAd ⟨v6, b⟩ false, [], []⟩ := by rw [HP.out]; simp
      have HE := Kp.mk e1
      clear e1 hpr
      go_wp2_with (with_reducible refine ld_mid rfl 26 (.tmp 30) rfl w.heap.size 4 rfl HB Tryz.underlying26 rfl [.bool v6, .int .u8 (b 0), .int .u8 (b 1), .int .u8 (b 2), .int .u8 (b 3), .int .u8 (b 4), .int .u8 (b 5), .int .u8 (b 6), .int .u8 (b 7), .int .u8 (b 8), .int .u8 (b 9), .int .u8 (b 10), .int .u8 (b 11), .int .u8 (b 12), .int .u8 (b 13), .int .u8 (b 14), .int .u8 (b 15)] (by kernel_rfl) rfl ?_)
      refine (playAddr_calls ⟨v6, b⟩ false W).mono ?_
      rintro e5 w5 ⟨rfl, hb5⟩
      have HG5 := Kp.mk (newA hb5 HG.out)
      have HZ5 := Kp.mk (newA hb5 HZ.out)
      have HL5 := Kp.mk (HBE.out.trans (hb5.mono HBE.out.size))
      clear hb5
      go_wp2_with (with_reducible refine st_mid (w0 := w) (base := w.heap.size) rfl 26 (.tmp 36) (.tmp 35) rfl rfl g 4 _ rfl rfl HG5 (by kernel_rfl) (Nat.le_of_ble_eq_true (by kernel_rfl)) (by kernel_rfl) (new := recA ⟨pn, 1, pc, rl, playAd ⟨v6, b⟩ false, [], []⟩ (.slice none 0 0)) (by kernel_rfl) HL5 HLT.out ?_)
      intro w6 Hg6 HO6 HB6 hs6
      have HZ6 := Kp.mk ((HO6.out _ HNE.out).trans HZ5.out)
      clear hs6
      go_wp2_with (first | (with_reducible refine ld_blk rfl 28 (.tmp 3) rfl g rfl Hg6 Tryz.underlying28 rfl (by kernel_rfl) ?_) | (with_reducible refine st_blk (w0 := w) (base := w.heap.size) rfl 28 (.tmp 2) (.tmp 43) rfl rfl (w.heap.size + 1) _ rfl rfl HZ6 (by kernel_rfl) (by kernel_rfl) (by kernel_rfl) HB6 (Nat.le_succ _) ?_))
      intro w7 Hg7 HO7 HB7 hs7
      clear hs7
      go_wp2
      refine bodyPost_ret (results_cell_row rfl _ _ (w.heap.size + 1) _ _ (0, 0) _ rfl Hg7.out Tryz.underlying28 rfl (by kernel_rfl)) rfl ?_
      rw [HE.out]
      exact ⟨none, 0, rfl, Kd.R_nil _ _ _ _ _, HB7.out⟩
    by_cases t28 : pt = 28
    · subst t28
      have e1 : pr = ⟨pn, 28, pc, rl, playAd ⟨v6, b⟩ true, [], []⟩ := by rw [HP.out]; simp
      have HE := Kp.mk e1
      clear e1 hpr
      go_wp2_with (with_reducible refine ld_mid rfl 26 (.tmp 30) rfl w.heap.size 4 rfl HB Tryz.underlying26 rfl [.bool v6, .int .u8 (b 0), .int .u8 (b 1), .int .u8 (b 2), .int .u8 (b 3), .int .u8 (b 4), .int .u8 (b 5), .int .u8 (b 6), .int .u8 (b 7), .int .u8 (b 8), .int .u8 (b 9), .int .u8 (b 10), .int .u8 (b 11), .int .u8 (b 12), .int .u8 (b 13), .int .u8 (b 14), .int .u8 (b 15)] (by kernel_rfl) rfl ?_)
      refine (playAddr_calls ⟨v6, b⟩ true W).mono ?_
      rintro e5 w5 ⟨rfl, hb5⟩
      have HG5 := Kp.mk (newA hb5 HG.out)
      have HZ5 := Kp.mk (newA hb5 HZ.out)
      have HL5 := Kp.mk (HBE.out.trans (hb5.mono HBE.out.size))
      clear hb5
      go_wp2_with (with_reducible refine st_mid (w0 := w) (base := w.heap.size) rfl 26 (.tmp 36) (.tmp 35) rfl rfl g 4 _ rfl rfl HG5 (by kernel_rfl) (Nat.le_of_ble_eq_true (by kernel_rfl)) (by kernel_rfl) (new := recA ⟨pn, 28, pc, rl, playAd ⟨v6, b⟩ true, [], []⟩ (.slice none 0 0)) (by kernel_rfl) HL5 HLT.out ?_)
      intro w6 Hg6 HO6 HB6 hs6
      have HZ6 := Kp.mk ((HO6.out _ HNE.out).trans HZ5.out)
      clear hs6
      go_wp2_with (first | (with_reducible refine ld_blk rfl 28 (.tmp 3) rfl g rfl Hg6 Tryz.underlying28 rfl (by kernel_rfl) ?_) | (with_reducible refine st_blk (w0 := w) (base := w.heap.size) rfl 28 (.tmp 2) (.tmp 43) rfl rfl (w.heap.size + 1) _ rfl rfl HZ6 (by kernel_rfl) (by kernel_rfl) (by kernel_rfl) HB6 (Nat.le_succ _) ?_))
      intro w7 Hg7 HO7 HB7 hs7
      clear hs7
      go_wp2
      refine bodyPost_ret (results_cell_row rfl _ _ (w.heap.size + 1) _ _ (0, 0) _ rfl Hg7.out Tryz.underlying28 rfl (by kernel_rfl)) rfl ?_
      rw [HE.out]
      exact ⟨none, 0, rfl, Kd.R_nil _ _ _ _ _, HB7.out⟩
    by_cases t5 : pt = 5
    · subst t5
      obtain ⟨tg, htg2⟩ : ∃ tg, playN rtg = tg := ⟨_, rfl⟩
      have hN := playnameB rtg W htg
      have e1 : pr = ⟨pn, 5, pc, rl, Ad.zero, tg, []⟩ := by rw [HP.out, ← htg2]; simp
      rw [htg2] at hN
      have HE := Kp.mk e1
      have HN5 := Kp.mk hN
      have d21 : _ = some (Value.string (mkB rtg)) := blk_cell HB.out 21
      clear e1 hpr hN htg2
      go_wp2_with (fail)
      refine HN5.out.mono ?_
      rintro e5 w5 ⟨rfl, hb5⟩
      have HG5 := Kp.mk (newA hb5 HG.out)
      have HZ5 := Kp.mk (newA hb5 HZ.out)
      have HL5 := Kp.mk (HBE.out.trans (hb5.mono HBE.out.size))
      clear hb5 d1 d21 HN5
      have f21 : _ = some (Value.string ⟨#[]⟩) := blk_cell HG5.out 21
      have z21 := blk_frozen HG5.out 21
      have hg6 : _ = some (Obj.cells (recA ⟨pn, 5, pc, rl, Ad.zero, tg, []⟩ (.slice none 0 0)) _ _) := blk_put HG5.out 21 (.string (mkB tg)) rfl
      have HG6 := Kp.mk hg6
      have HZ6 := Kp.mk (blk_far (p := ⟨g, 21, none⟩) HZ5.out HNE.out (.string (mkB tg)))
      have HB6 := Kp.mk (HL5.out.setCell (p := ⟨g, 21, none⟩) HLT.out (.string (mkB tg)))
      clear hg6
      go_wp2_with (first | (with_reducible refine ld_blk rfl 28 (.tmp 3) rfl g rfl HG6 Tryz.underlying28 rfl (by kernel_rfl) ?_) | (with_reducible refine st_blk (w0 := w) (base := w.heap.size) rfl 28 (.tmp 2) (.tmp 43) rfl rfl (w.heap.size + 1) _ rfl rfl HZ6 (by kernel_rfl) (by kernel_rfl) (by kernel_rfl) HB6 (Nat.le_succ _) ?_))
      intro w7 Hg7 HO7 HB7 hs7
      clear hs7
      go_wp2
      refine bodyPost_ret (results_cell_row rfl _ _ (w.heap.size + 1) _ _ (0, 0) _ rfl Hg7.out Tryz.underlying28 rfl (by kernel_rfl)) rfl ?_
      rw [HE.out]
      exact ⟨none, 0, rfl, Kd.R_nil _ _ _ _ _, HB7.out⟩
    obtain ⟨m, hm⟩ : ∃ m : Nat, min rd.length 40 = m := ⟨_, rfl⟩
    have d22 : _ = some (Value.slice A rd.length c) := blk_cell HB.out 22
    have hmi : min (rd.length : Int) 40 = (m : Int) := by omega
    have hmc : (m : Int) ≤ (c : Int) := by omega
    have hm40 : m ≤ 40 := by omega
    obtain ⟨ds, hds⟩ : ∃ ds, rd.take 40 = ds := ⟨_, rfl⟩
    have hdm : rd.take m = ds := by
      rw [← hds, ← hm]
      by_cases h : rd.length ≤ 40
      · rw [Nat.min_eq_left h, List.take_of_length_le (Nat.le_refl _), List.take_of_length_le h]
      · rw [Nat.min_eq_right (by omega)]
    have hdl : ds.length = m := by rw [← hdm, List.length_take]; omega
    have hC := Kd.C_take (m := m) (Kd.C_below HC.out HBE.out) (by omega)
    rw [hdm, hdl] at hC
    have HD := Kp.mk hC
    have e1 : pr = ⟨pn, pt, pc, rl, Ad.zero, [], ds⟩ := by rw [HP.out, hds]; simp [t1, t28, t5]
    have HE := Kp.mk e1
    have HDL := Kp.mk hdl
    clear e1 hpr hC hdm hds hm hdl
    go_wp2_with (at_builtin; (with_reducible refine gate_builtin (b := .append) (xs := #[.const (.slice none 0 0), .tmp 24]) rfl ?_); go_must (refine app_bytesG (w0 := W) (base := W.heap.size) (s := .const (.slice none 0 0)) (x := .tmp 24) (v := .slice none 0 0) rfl rfl [] ds A m c rfl rfl (Kd.R_nil _ _ _ _ _) HD.out (Below.refl _ _) (Nat.le_refl _) (by show 0 + m ≤ 140737488355328; omega) ?_))
    intro v5 w5 HR5 HB5 hs5 HG5
    have HG6 := Kp.mk (newA HB5.out HG.out)
    have HZ6 := Kp.mk (newA HB5.out HZ.out)
    have HL6 := Kp.mk (HBE.out.trans (HB5.out.mono HBE.out.size))
    have HLZ := Kp.mk (heap_lt HZ.out)
    obtain ⟨A5, c5, rfl⟩ := Kd.R_slice HR5.out
    clear hs5 HG5 d1 d22 hmi hmc
    have f22 : _ = some (Value.slice none 0 0) := blk_cell HG6.out 22
    have z22 := blk_frozen HG6.out 22
    have hg7 : _ = some (Obj.cells (recA ⟨pn, pt, pc, rl, Ad.zero, [], ds⟩ (.slice A5 ds.length c5)) _ _) := blk_put HG6.out 22 (.slice A5 ds.length c5) rfl
    have HG7 := Kp.mk hg7
    have HZ7 := Kp.mk (blk_far (p := ⟨g, 22, none⟩) HZ6.out HNE.out (.slice A5 ds.length c5))
    have HB7 := Kp.mk (HL6.out.setCell (p := ⟨g, 22, none⟩) HLT.out (.slice A5 ds.length c5))
    have HR7 := Kp.mk (Kd.R_set HR5.out HG6.out (by decide) 22 (.slice A5 ds.length c5))
    clear hg7
    go_wp2_with (first | (with_reducible refine ld_blk rfl 28 (.tmp 3) rfl g rfl HG7 Tryz.underlying28 rfl (by kernel_rfl) ?_) | (with_reducible refine st_blk (w0 := w) (base := w.heap.size) rfl 28 (.tmp 2) (.tmp 43) rfl rfl (w.heap.size + 1) _ rfl rfl HZ7 (by kernel_rfl) (by kernel_rfl) (by kernel_rfl) HB7 (Nat.le_succ _) ?_))
    intro w8 Hg8 HO8 HB8 hs8
    clear hs8
    go_wp2
    refine bodyPost_ret (results_cell_row rfl _ _ (w.heap.size + 1) _ _ (0, 0) _ rfl Hg8.out Tryz.underlying28 rfl (by kernel_rfl)) rfl ?_
    rw [HE.out]
    exact ⟨A5, c5, rfl, Kd.R_lower (R_stored HR7.out HLZ.out HO8.out) HBE.out.size, HB8.out⟩
end Go.Proofs.YtlkneoednkhleaaGreatDoor

namespace Go.Proofs.YtlkneoednkhleaaGreatDoor
open Go.RowKit Go.Proofs.YtlkneoednkhleaaGreatDoorW.PrintWords
set_option linter.unusedVariables false
set_option linter.unusedSimpArgs false
set_option maxRecDepth 100000
set_option maxHeartbeats 4000000

theorem playRecs_calls (A : Option Addr) (c : Nat) (l : List Rec) (w : World) (h : recK.C w A l.length l) (hn : ∀ r ∈ l, r.name.length ≤ 9223372036854775807 ∧ r.tgt.length ≤ 9223372036854775807) :
    Calls Tryz.prog 74 #[.slice A l.length c] w (Gives (Kd.slice 28 recK) ((l.take 8).map playR) w) := by
  have hm := (C_len h).2
  have HC := Kp.mk h
  have HN := Kp.mk hn
  clear h hn
  go_enter Tryz.func74, Tryz.ntmps74
  go_wp2_with (fail)
  go_loopw [3, 4] (fun v i wr => ∃ k : Nat, k ≤ l.length ∧ k ≤ 8 ∧ i = .int .i64 k ∧ Kp (Below w.heap.size w wr) ∧ Kp (recK.R 28 wr w.heap.size (fun _ => True) v ((l.take k).map playR))) (fun _ i _ => 8 - (intOf i).toNat)
  case atStart => exact ⟨0, Nat.zero_le _, by decide, rfl, ⟨Below.refl _ _⟩, ⟨Kd.R_nil _ _ _ _ _⟩⟩
  case round =>
    obtain ⟨k, hk1, hk8, rfl, HW, HR⟩ := hrel
    by_cases hlt : k < l.length ∧ k < 8
    · obtain ⟨hk, h8⟩ := hlt
      obtain ⟨g, o, Ar, cr, rfl, r1, r2, r3⟩ := at_rec (Kd.C_below HC.out HW.out) k hk
      have hnm := HN.out _ (getD_mem l Rec.zero k hk)
      have hts := take_snoc l Rec.zero k hk
      obtain ⟨r, hr⟩ : ∃ r, l.getD k Rec.zero = r := ⟨_, rfl⟩
      rw [hr] at r1 r2 r3 hnm hts
      have hcall := playRec_calls r Ar cr wr r3 r2 hnm.1 hnm.2
      obtain ⟨pr, hpr⟩ : ∃ pr, playR r = pr := ⟨_, rfl⟩
      have hsn : (l.take (k + 1)).map playR = (l.take k).map playR ++ [pr] := by rw [hts, List.map_append, ← hpr]; rfl
      rw [hpr] at hcall
      obtain ⟨rn, rt, rc, rl, ⟨v, b⟩, tg, d1⟩ := r
      obtain ⟨pn, pt, pc, pl, ⟨pv, pb⟩, pg, pd⟩ := pr
      have HR1 : Kp (wr.rangeAt g (o + k * 23) [.string (mkB rn), .int .i64 rt, .int .i64 rc, .int .u32 rl, .bool v, .int .u8 (b 0), .int .u8 (b 1), .int .u8 (b 2), .int .u8 (b 3), .int .u8 (b 4), .int .u8 (b 5), .int .u8 (b 6), .int .u8 (b 7), .int .u8 (b 8), .int .u8 (b 9), .int .u8 (b 10), .int .u8 (b 11), .int .u8 (b 12), .int .u8 (b 13), .int .u8 (b 14), .int .u8 (b 15), .string (mkB tg), .slice Ar d1.length cr]) := ⟨r1⟩
      have HCALL := Kp.mk hcall
      have HSN := Kp.mk hsn
      have b1 : decide ((k : Int) < (l.length : Int)) = true := by simp; omega
      have b2 : decide ((k : Int) < 8) = true := by simp; omega
      have i0 : (0 : Int) ≤ (k : Int) := by omega
      have i1 : (k : Int) < (l.length : Int) := by omega
      have HME : Kp (k + 1 ≤ l.length ∧ k + 1 ≤ 8 ∧ 8 - (k + 1) < 8 - k) := ⟨by omega⟩
      obtain ⟨ps, hps⟩ : ∃ ps, (l.take k).map playR = ps := ⟨_, rfl⟩
      rw [hps] at HR HSN
      have HLL : Kp ((ps.length + 1) * 96 ≤ 140737488355328) := ⟨by rw [← hps, List.length_map, List.length_take]; omega⟩
      have HOL := Kp.mk (fun k hk => R_own_lt HR.out k hk)
      clear hr r1 r2 r3 hnm hts hcall hpr hsn hps hk h8
      go_wp2_with (with_reducible refine wpList_load_mid rfl 28 (.tmp 18) rfl g (o + k * 23) rfl _ _ HR1.out Tryz.underlying28 (by kernel_rfl) (by kernel_rfl) ?_)
      refine HCALL.out.mono ?_
      rintro e1 w1 ⟨A1, c1, rfl, hR1, hB1⟩
      have HD1 := Kp.mk hR1
      have HB1 := Kp.mk (below_step HW.out hB1)
      have HRa := Kp.mk (Kd.R_below HR.out hB1)
      have HZ := Kp.mk HW.out.size
      clear hR1 hB1
      go_wp2_with (at_builtin; (with_reducible refine gate_builtin (b := .append) (xs := #[.tmp 15, .tmp 21]) rfl ?_); go_must (refine app_rec (w0 := w) (s := .tmp 15) (x := .tmp 21) (v := u3) (base := w.heap.size) rfl rfl ps ⟨pn, pt, pc, pl, ⟨pv, pb⟩, pg, pd⟩ (.slice A1 pd.length c1) wr.heap.size rfl rfl HD1.out HZ.out HOL.out HRa.out HB1.out HB1.out.size HLL.out ?_))
      intro v4 w4 HR4 HB4 hs4
      rw [← HSN.out] at HR4
      go_wp2
      refine ⟨⟨k + 1, HME.out.1, HME.out.2.1, by go_num, HB4, HR4⟩, ?_⟩
      have hi1 : (intOf (Value.int .i64 ((k : Int) + 1))).toNat = k + 1 := by simp [intOf] <;> omega
      have hi2 : (intOf (Value.int .i64 (k : Int))).toNat = k := by simp [intOf]
      rw [hi1, hi2]
      exact HME.out.2.2
    · have ht : (l.take k).map playR = (l.take 8).map playR := by
        by_cases h : k < l.length
        · have : k = 8 := by omega
          rw [this]
        · rw [List.take_of_length_le (by omega), List.take_of_length_le (by omega)]
      rw [ht] at HR
      by_cases h : k < l.length
      · have b1 : decide ((k : Int) < (l.length : Int)) = true := by simp; omega
        have b2 : decide ((k : Int) < 8) = false := by simp; omega
        clear ht hlt
        go_wp2
        go_ret
        exact ⟨_, rfl, ⟨_, rfl, HR.out⟩, HW.out⟩
      · have b1 : decide ((k : Int) < (l.length : Int)) = false := by simp; omega
        clear ht hlt
        go_wp2
        go_ret
        exact ⟨_, rfl, ⟨_, rfl, HR.out⟩, HW.out⟩
end Go.Proofs.YtlkneoednkhleaaGreatDoor

namespace Go.Proofs.YtlkneoednkhleaaGreatDoor
open Go.RowKit Go.Proofs.YtlkneoednkhleaaGreatDoorW.PrintWords
set_option linter.unusedVariables false
set_option linter.unusedSimpArgs false
set_option maxRecDepth 100000
set_option maxHeartbeats 2000000

def modV (k v : Int) : Int := wrap64 ((IntKind.u64.wrap v).tmod k)
theorem modV_range (k : Nat) (v : Int) (h0 : 0 < k) (h1 : k ≤ 65536) : 0 ≤ modV k v ∧ modV k v < k := by
  obtain ⟨N, hN, h⟩ := umod v k (by omega) (by omega)
  unfold modV
  omega
def playQ (q : Qu) : Qu := ⟨playN q.name, portV q.typ, portV q.cls⟩
theorem playQ_right (q : Qu) : (playQ q).right = true := by
  have h1 := (playN_right q.name).1
  have h2 := portV_range q.typ
  have h3 := portV_range q.cls
  simp [playQ, Qu.right, h1, within, h2, h3]
/-- A message that may be written, out of any. -/
def playMsg (m : Msg) : Msg := ⟨portV m.id, m.rp, modV 16 m.op, modV 16 m.co, modV 128 m.fl, (m.qs.take 4).map playQ, (m.an.take 8).map playR, (m.au.take 8).map playR, (m.ex.take 8).map playR⟩
theorem nameW_le (l : L) : (nameW l).length ≤ l.length + 2 := by
  unfold nameW
  rw [List.length_append, List.length_singleton, wire_len]
  unfold labelsOf
  split
  · show 1 ≤ _; omega
  · rw [splitD_sz]; exact Nat.le_refl _
theorem playR_lensC (r : Rec) : (playR r).name.length ≤ 60 ∧ (playR r).tgt.length ≤ 60 ∧ (playR r).data.length ≤ 40 := by
  refine ⟨(playN_right r.name).2, ?_, ?_⟩
  · unfold playR
    dsimp only
    split
    · exact (playN_right r.tgt).2
    · decide
  · unfold playR
    dsimp only
    split
    · decide
    · rw [List.length_take]; omega
theorem playAd_okC (a : Ad) (v : Bool) (h : a.ok) : (playAd a v).ok := by
  intro i hi
  have := h i hi
  unfold playAd
  dsimp only
  split
  · decide
  · exact this
theorem playR_okC (r : Rec) (h : r.ok) : (playR r).ok := by
  refine ⟨?_, ?_⟩
  · unfold playR
    dsimp only
    split
    · exact playAd_okC _ _ h.ad
    · exact Ad.ok_zero
  · unfold playR
    dsimp only
    split
    · intro x hx; cases hx
    · exact fun x hx => h.data x (List.mem_of_mem_take hx)
theorem playR_wire (r : Rec) : (playR r).wire.length ≤ 134 := by
  obtain ⟨h1, h2, h3⟩ := playR_lensC r
  obtain ⟨p, hp⟩ : ∃ p, playR r = p := ⟨_, rfl⟩
  rw [hp] at h1 h2 h3 ⊢
  have n1 := nameW_le p.name
  have n2 := nameW_le p.tgt
  rw [wire_len_rec, wire_q_len]
  dsimp only
  have hb : p.body.length ≤ 62 := by
    unfold Rec.body
    split
    · omega
    · rw [List.length_append, List.length_take, ad_l_len]
      have : szT p.typ = 16 ∨ szT p.typ = 4 ∨ szT p.typ = 0 := by
        rcases szT_cases p.typ with h | h | h
        · exact .inl h.2
        · exact .inr (.inl h.2)
        · exact .inr (.inr h)
      omega
  omega
theorem playQ_wire (q : Qu) : (playQ q).wire.length ≤ 66 := by
  have h := (playN_right q.name).2
  have n1 := nameW_le (playQ q).name
  rw [wire_q_len]
  have : (playQ q).name.length ≤ 60 := h
  omega
theorem flat_le {α : Type} (f : α → List Int) (b : Nat) (l : List α) (h : ∀ x ∈ l, (f x).length ≤ b) : (l.map f).flatten.length ≤ l.length * b := by
  induction l with
  | nil => simp
  | cons x l ih =>
    have h1 := h x (by simp)
    have h2 := ih (fun y hy => h y (by simp [hy]))
    simp only [List.map_cons, List.flatten_cons, List.length_append, List.length_cons, Nat.succ_mul]
    omega
theorem wire_len_msg (m : Msg) : m.wire.length = 12 + ((m.qs.map Qu.wire).flatten.length + (m.all.map Rec.wire).flatten.length) := by
  unfold Msg.wire Msg.head
  simp only [List.length_append]
  show 2 + 2 + 2 + 2 + 2 + 2 + _ + _ = _
  omega
theorem flat_byts {α : Type} (f : α → List Int) (l : List α) (h : ∀ x ∈ l, Byts (f x)) : Byts (l.map f).flatten := by
  intro x hx
  obtain ⟨ys, hy, hx⟩ := List.mem_flatten.1 hx
  obtain ⟨z, hz, rfl⟩ := List.mem_map.1 hy
  exact h z hz x hx
/-- Bytes are bytes. -/
theorem byts_msg (m : Msg) (hok : m.headOk = true) (hq : ∀ q ∈ m.qs, q.right = true) (hr : ∀ r ∈ m.all, r.right = true ∧ r.ok ∧ 0 ≤ r.ttl ∧ r.ttl ≤ 4294967295) : Byts m.wire := by
  obtain ⟨k0, k1, k2, k3, k4⟩ := headOk_mk hok
  have hal : m.all.length = m.an.length + m.au.length + m.ex.length := by unfold Msg.all; rw [List.length_append, List.length_append]
  have hbits : 0 ≤ m.bits ∧ m.bits ≤ 65535 := by
    unfold Msg.bits
    split <;> omega
  unfold Msg.wire Msg.head
  refine byts_app (byts_app (byts_app (byts_app (byts_app (byts_app (byts_app (byts_be16 k0.1 k0.2) (byts_be16 hbits.1 hbits.2)) (byts_be16 (by omega) (by omega))) (byts_be16 (by omega) (by omega))) (byts_be16 (by omega) (by omega))) (byts_be16 (by omega) (by omega))) (flat_byts _ _ fun q h => byts_wireQ q (hq q h))) (flat_byts _ _ fun r h => byts_wire r (hr r h).1 (hr r h).2.1 (hr r h).2.2.1 (hr r h).2.2.2)
/-- What may be read off a message. -/
structure Msg.fit (m : Msg) : Prop where
  id : -9223372036854775808 ≤ m.id ∧ m.id ≤ 9223372036854775807
  op : -9223372036854775808 ≤ m.op ∧ m.op ≤ 9223372036854775807
  co : -9223372036854775808 ≤ m.co ∧ m.co ≤ 9223372036854775807
  fl : -9223372036854775808 ≤ m.fl ∧ m.fl ≤ 9223372036854775807
  qs : ∀ q ∈ m.qs, q.fit
  rs : ∀ r ∈ m.all, r.fit
/-- What is made is right. -/
structure Msg.Good (m : Msg) : Prop where
  head : m.headOk = true
  qs : ∀ q ∈ m.qs, q.right = true
  rs : ∀ r ∈ m.all, r.right = true
  ok : ∀ r ∈ m.all, r.ok ∧ 0 ≤ r.ttl ∧ r.ttl ≤ 4294967295
  nm : ∀ q ∈ m.qs, q.name.length ≤ 60
  rn : ∀ r ∈ m.all, r.name.length ≤ 60 ∧ r.tgt.length ≤ 60 ∧ r.data.length ≤ 40
  ln : m.qs.length ≤ 4 ∧ m.an.length ≤ 8 ∧ m.au.length ≤ 8 ∧ m.ex.length ≤ 8
  wire : m.wire.length ≤ 3600
theorem mem_all {m : Msg} {r : Rec} : r ∈ m.all ↔ r ∈ m.an ∨ r ∈ m.au ∨ r ∈ m.ex := by
  unfold Msg.all
  rw [List.mem_append, List.mem_append, or_assoc]
theorem playMsg_good (m : Msg) (h : ∀ r ∈ m.all, r.fit) : (playMsg m).Good := by
  have hmem : ∀ r ∈ (playMsg m).all, ∃ s ∈ m.all, r = playR s := by
    intro r hr
    rcases mem_all.1 hr with hr | hr | hr
    all_goals
      obtain ⟨s, hs, rfl⟩ := List.mem_map.1 hr
    · exact ⟨s, mem_all.2 (.inl (List.mem_of_mem_take hs)), rfl⟩
    · exact ⟨s, mem_all.2 (.inr (.inl (List.mem_of_mem_take hs))), rfl⟩
    · exact ⟨s, mem_all.2 (.inr (.inr (List.mem_of_mem_take hs))), rfl⟩
  have hmq : ∀ q ∈ (playMsg m).qs, ∃ s, q = playQ s := by
    intro q hq
    obtain ⟨s, hs, rfl⟩ := List.mem_map.1 hq
    exact ⟨s, rfl⟩
  have l1 : (playMsg m).qs.length ≤ 4 := by show ((m.qs.take 4).map playQ).length ≤ 4; rw [List.length_map, List.length_take]; omega
  have l2 : (playMsg m).an.length ≤ 8 := by show ((m.an.take 8).map playR).length ≤ 8; rw [List.length_map, List.length_take]; omega
  have l3 : (playMsg m).au.length ≤ 8 := by show ((m.au.take 8).map playR).length ≤ 8; rw [List.length_map, List.length_take]; omega
  have l4 : (playMsg m).ex.length ≤ 8 := by show ((m.ex.take 8).map playR).length ≤ 8; rw [List.length_map, List.length_take]; omega
  have hal : (playMsg m).all.length = (playMsg m).an.length + (playMsg m).au.length + (playMsg m).ex.length := by unfold Msg.all; rw [List.length_append, List.length_append]
  refine ⟨?_, ?_, ?_, ?_, ?_, ?_, ⟨l1, l2, l3, l4⟩, ?_⟩
  · have h1 := portV_range m.id
    have h2 : 0 ≤ modV 16 m.op ∧ modV 16 m.op < 16 := modV_range 16 m.op (by decide) (by decide)
    have h3 : 0 ≤ modV 16 m.co ∧ modV 16 m.co < 16 := modV_range 16 m.co (by decide) (by decide)
    have h4 : 0 ≤ modV 128 m.fl ∧ modV 128 m.fl < 128 := modV_range 128 m.fl (by decide) (by decide)
    have e1 : (playMsg m).id = portV m.id := rfl
    have e2 : (playMsg m).op = modV 16 m.op := rfl
    have e3 : (playMsg m).co = modV 16 m.co := rfl
    have e4 : (playMsg m).fl = modV 128 m.fl := rfl
    unfold Msg.headOk inB
    rw [e1, e2, e3, e4, hal]
    simp only [Bool.and_eq_true, decide_eq_true_eq]
    omega
  · intro q hq
    obtain ⟨s, rfl⟩ := hmq q hq
    exact playQ_right s
  · intro r hr
    obtain ⟨s, -, rfl⟩ := hmem r hr
    exact playR_right s
  · intro r hr
    obtain ⟨s, hs, rfl⟩ := hmem r hr
    exact ⟨playR_okC s (h s hs).ok, (h s hs).ttl.1, (h s hs).ttl.2⟩
  · intro q hq
    obtain ⟨s, rfl⟩ := hmq q hq
    exact (playN_right s.name).2
  · intro r hr
    obtain ⟨s, -, rfl⟩ := hmem r hr
    exact playR_lensC s
  · have f1 := flat_le Qu.wire 66 (playMsg m).qs (fun q hq => by obtain ⟨s, rfl⟩ := hmq q hq; exact playQ_wire s)
    have f2 := flat_le Rec.wire 134 (playMsg m).all (fun r hr => by obtain ⟨s, -, rfl⟩ := hmem r hr; exact playR_wire s)
    rw [wire_len_msg]
    have g1 : (playMsg m).qs.length * 66 ≤ 4 * 66 := Nat.mul_le_mul_right _ l1
    have g2 : (playMsg m).all.length * 134 ≤ 24 * 134 := Nat.mul_le_mul_right _ (by omega)
    omega
theorem Msg.Good.byts {m : Msg} (h : m.Good) : Byts m.wire := byts_msg m h.head h.qs fun r hr => ⟨h.rs r hr, (h.ok r hr).1, (h.ok r hr).2.1, (h.ok r hr).2.2⟩
theorem Msg.Good.write {m : Msg} (h : m.Good) : writeM m = (m.wire, .none) := by
  have h2 : m.qs.all Qu.right = true := List.all_eq_true.2 h.qs
  have h3 : m.all.all Rec.right = true := List.all_eq_true.2 h.rs
  have := h.wire
  unfold writeM
  rw [h.head, h2, h3, if_neg (by simp), if_neg (by simp), if_neg (by simp), if_neg (by omega)]
theorem norm_at (l : List Rec) (h : ∀ r ∈ l, r.right = true) (k : Nat) (hk : k < l.length) : ((l.map Rec.norm).getD k Rec.zero).Like (l.getD k Rec.zero) := by
  have e : (l.map Rec.norm).getD k Rec.zero = (l.getD k Rec.zero).norm := by
    rw [List.getD_eq_getElem?_getD, List.getD_eq_getElem?_getD, List.getElem?_map, List.getElem?_eq_getElem hk]
    rfl
  have hr := h _ (getD_mem l Rec.zero k hk)
  obtain ⟨h1, h2⟩ := norm_ad _ hr
  rw [e]
  exact ⟨rfl, rfl, rfl, rfl, h1, h2, rfl, rfl⟩
theorem norm_like (m : Msg) (h : ∀ r ∈ m.all, r.right = true) : m.norm.Like m :=
  ⟨rfl, rfl, rfl, rfl, rfl, rfl, by simp [Msg.norm], by simp [Msg.norm], by simp [Msg.norm],
    fun k hk => norm_at m.an (fun r hr => h r (mem_all.2 (.inl hr))) k (by simpa [Msg.norm] using hk),
    fun k hk => norm_at m.au (fun r hr => h r (mem_all.2 (.inr (.inl hr)))) k (by simpa [Msg.norm] using hk),
    fun k hk => norm_at m.ex (fun r hr => h r (mem_all.2 (.inr (.inr hr)))) k (by simpa [Msg.norm] using hk)⟩
/-- A message's rows have room enough. -/
structure MsgCap (m : Msg) (c5 c6 c7 c8 : Nat) : Prop where
  c5 : m.qs.length ≤ c5
  c6 : m.an.length ≤ c6
  c7 : m.au.length ≤ c7
  c8 : m.ex.length ≤ c8
theorem MsgRows.cap {w : World} {b : Nat} {m : Msg} {A5 A6 A7 A8 : Option Addr} {c5 c6 c7 c8 : Nat} (h : MsgRows w b m (.slice A5 m.qs.length c5) (.slice A6 m.an.length c6) (.slice A7 m.au.length c7) (.slice A8 m.ex.length c8)) : MsgCap m c5 c6 c7 c8 :=
  ⟨(R_C h.qs).2, (R_C h.an).2, (R_C h.au).2, (R_C h.ex).2⟩
theorem MsgRows.stored {w w' : World} {b g : Nat} {m : Msg} {v5 v6 v7 v8 : Value} (h : MsgRows w b m v5 v6 v7 v8) (hg : g < b) (HO : ∀ k, k ≠ g → w'.heap[k]? = w.heap[k]?) : MsgRows w' b m v5 v6 v7 v8 :=
  ⟨R_stored h.qs hg HO, R_stored h.an hg HO, R_stored h.au hg HO, R_stored h.ex hg HO⟩
theorem MsgRows.below {w w' : World} {b : Nat} {m : Msg} {v5 v6 v7 v8 : Value} (h : MsgRows w b m v5 v6 v7 v8) (hb : Below w.heap.size w w') : MsgRows w' b m v5 v6 v7 v8 :=
  ⟨Kd.R_below h.qs hb, Kd.R_below h.an hb, Kd.R_below h.au hb, Kd.R_below h.ex hb⟩
/-- What a call gives: a message. -/
def PlayMPost (m : Msg) (w : World) (e : Ending) (w' : World) : Prop :=
  ∃ A5 A6 A7 A8 c5 c6 c7 c8, e = .returned (.agg (msgA m (.slice A5 m.qs.length c5) (.slice A6 m.an.length c6) (.slice A7 m.au.length c7) (.slice A8 m.ex.length c8))) ∧ MsgRows w' w.heap.size m (.slice A5 m.qs.length c5) (.slice A6 m.an.length c6) (.slice A7 m.au.length c7) (.slice A8 m.ex.length c8) ∧ Below w.heap.size w w'
theorem Msg.Good.write_calls {m : Msg} (h : m.Good) {A5 A6 A7 A8 : Option Addr} {c5 c6 c7 c8 : Nat} {w : World} (hE : Env w) (hC : MsgC w m A5 A6 A7 A8) (hc : MsgCap m c5 c6 c7 c8) :
    Calls Tryz.prog 29 #[.agg (msgA m (.slice A5 m.qs.length c5) (.slice A6 m.an.length c6) (.slice A7 m.au.length c7) (.slice A8 m.ex.length c8))] w (Gives2 bytesK erK m.wire .none w) :=
  Go.Proofs.YtlkneoednkhleaaGreatDoor.write_calls m A5 A6 A7 A8 c5 c6 c7 c8 w m.wire .none hE hC.qs hc.c5 hC.an hc.c6 hC.au hc.c7 hC.ex hc.c8 (fun q hq => by have := h.nm q hq; omega) (fun r hr => by have := h.rn r hr; exact ⟨by omega, by omega, by omega, (h.ok r hr).2⟩) (by have := h.ln; omega) (by have := h.ln; omega) h.write
end Go.Proofs.YtlkneoednkhleaaGreatDoor

namespace Go.Proofs.YtlkneoednkhleaaGreatDoor
open Go.RowKit Go.Proofs.YtlkneoednkhleaaGreatDoorW.PrintWords Go.Proofs.YtlkneoednkhleaaGreatDoorW.PrintLast
set_option linter.unusedVariables false
set_option linter.unusedSimpArgs false
set_option maxRecDepth 100000
set_option maxHeartbeats 8000000

theorem put_msgP (W : World) (g : Nat) (id : Int) (rp : Bool) (op co fl : Int) (A6 A7 A8 : Option Addr) (n6 n7 n8 c6 c7 c8 : Nat) (hg : W.heap[g]? = some (.cells #[.int .i64 0, .bool false, .int .i64 0, .int .i64 0, .int .i64 0, .slice none 0 0, .slice none 0 0, .slice none 0 0, .slice none 0 0] 59 (0, 0))) :
    (storeCells ⟨g, 0, none⟩ [.int .i64 id, .bool rp, .int .i64 op, .int .i64 co, .int .i64 fl, .slice none 0 0, .slice A6 n6 c6, .slice A7 n7 c7, .slice A8 n8 c8] 0).run Tryz.prog W = .ok () (W.setRow g #[.int .i64 id, .bool rp, .int .i64 op, .int .i64 co, .int .i64 fl, .slice none 0 0, .slice A6 n6 c6, .slice A7 n7 c7, .slice A8 n8 c8]) :=
  run_storeCells_from (P := Tryz.prog) g 59 [.int .i64 id, .bool rp, .int .i64 op, .int .i64 co, .int .i64 fl, .slice none 0 0, .slice A6 n6 c6, .slice A7 n7 c7, .slice A8 n8 c8] 0 _ W hg rfl (fun v hv => by
    simp only [List.mem_cons, List.not_mem_nil, or_false] at hv
    rcases hv with rfl | rfl | rfl | rfl | rfl | rfl | rfl | rfl | rfl <;> rfl)
/-- The box and the result's cell, as they were. -/
structure MAcc (w W : World) (box : Array Value) : Prop where
  hb : W.heap[w.heap.size]? = some (.cells box 59 (0, 0))
  hz : W.heap[w.heap.size + 1]? = some (.cells #[.int .i64 0, .bool false, .int .i64 0, .int .i64 0, .int .i64 0, .slice none 0 0, .slice none 0 0, .slice none 0 0, .slice none 0 0] 59 (0, 0))
  be : Below w.heap.size w W
abbrev SMg (w : World) (id : Int) (rp : Bool) (op co fl : Int) (v5 v6 v7 v8 : Value) (w' : World) : Prop := MAcc w w' #[.int .i64 id, .bool rp, .int .i64 op, .int .i64 co, .int .i64 fl, v5, v6, v7, v8] ∧ w'.cell? ⟨w.heap.size, 0, none⟩ = some (.int .i64 id) ∧ w'.cell? ⟨w.heap.size, 1, none⟩ = some (.bool rp) ∧ w'.cell? ⟨w.heap.size, 2, none⟩ = some (.int .i64 op) ∧ w'.cell? ⟨w.heap.size, 3, none⟩ = some (.int .i64 co) ∧ w'.cell? ⟨w.heap.size, 4, none⟩ = some (.int .i64 fl) ∧ w'.cell? ⟨w.heap.size, 6, none⟩ = some v6 ∧ w'.cell? ⟨w.heap.size, 7, none⟩ = some v7 ∧ w'.cell? ⟨w.heap.size, 8, none⟩ = some v8
section
variable {w W W' : World} {id : Int} {rp : Bool} {op co fl : Int} {v5 v6 v7 v8 : Value}
theorem sm_mk (h : MAcc w W #[.int .i64 id, .bool rp, .int .i64 op, .int .i64 co, .int .i64 fl, v5, v6, v7, v8]) : SMg w id rp op co fl v5 v6 v7 v8 W :=
  ⟨h, blk_cell h.hb 0, blk_cell h.hb 1, blk_cell h.hb 2, blk_cell h.hb 3, blk_cell h.hb 4, blk_cell h.hb 6, blk_cell h.hb 7, blk_cell h.hb 8⟩
theorem sm_below (h : SMg w id rp op co fl v5 v6 v7 v8 W) (hb : Below W.heap.size W W') : SMg w id rp op co fl v5 v6 v7 v8 W' :=
  sm_mk ⟨newA hb h.1.hb, newA hb h.1.hz, below_step h.1.be hb⟩
theorem sm_alloc (h : SMg w id rp op co fl v5 v6 v7 v8 W) (o : Obj) : SMg w id rp op co fl v5 v6 v7 v8 (W.alloc o) := sm_below h ((Below.refl _ _).alloc (Nat.le_refl _) o)
theorem sm_row (h : SMg w id rp op co fl v5 v6 v7 v8 W) {g : Nat} (hg : w.heap.size + 1 < g) (cs : Array Value) : SMg w id rp op co fl v5 v6 v7 v8 (W.setRow g cs) :=
  sm_mk ⟨(setRow_other _ _ _ _ (by omega)).trans h.1.hb, (setRow_other _ _ _ _ (by omega)).trans h.1.hz, ⟨h.1.be.os, h.1.be.tape, h.1.be.output, by rw [size_setRow]; exact h.1.be.size, fun k hk => (setRow_other _ _ _ _ (by omega)).trans (h.1.be.block k hk)⟩⟩
theorem sm_be (h : SMg w id rp op co fl v5 v6 v7 v8 W) : Below w.heap.size w W := h.1.be
theorem sm_lt (h : SMg w id rp op co fl v5 v6 v7 v8 W) : w.heap.size + 1 < W.heap.size := heap_lt h.1.hz
end
/-- A row that was made by a call, where one block was stored in that is elder, or younger. -/
theorem R_fin {α : Type} {d : Kd α} {e : Nat} {wk W F : World} {b b0 g : Nat} {v : Value} {xs : List α} (h : d.R e wk b (fun _ => True) v xs) (hb0 : b0 ≤ b) (hg : g < b ∨ wk.heap.size ≤ g) (hB : Below wk.heap.size wk W) (hF : ∀ k, k ≠ g → F.heap[k]? = W.heap[k]?) : d.R e F b0 (fun k => k ≠ g) v xs :=
  Kd.R_step (Kd.R_lower (Kd.R_mono (Kd.R_bound h) (fun k hk => by have := hk.2.1; have := hk.2.2.1; omega)) hb0) (fun k hk hlt => (hF k hk).trans (hB.block k hlt))
theorem R_fin0 {α : Type} {d : Kd α} {e : Nat} {wk F : World} {b b0 g s : Nat} {v : Value} {xs : List α} (h : d.R e wk b (fun _ => True) v xs) (hb0 : b0 ≤ b) (hg : g < b ∨ wk.heap.size ≤ g) (hs : wk.heap.size ≤ s) (hF : ∀ k, k ≠ g → k < wk.heap.size → F.heap[k]? = wk.heap[k]?) : d.R e F b0 (fun k => k ≠ g ∧ k < s) v xs :=
  Kd.R_step (Kd.R_lower (Kd.R_mono (Kd.R_bound h) (fun k hk => ⟨by have := hk.2.1; have := hk.2.2.1; omega, Nat.lt_of_lt_of_le hk.2.2.1 hs⟩)) hb0) (fun k hk hlt => hF k hk.1 hlt)
/-- Ahead of the loop. -/
structure PG (w W : World) (g s2 s3 : Nat) (box hd : Array Value) (v6 v7 v8 : Value) (l6 l7 l8 : List Rec) : Prop where
  acc : MAcc w W box
  hg : W.heap[g]? = some (.cells hd 59 (0, 0))
  lt : w.heap.size + 1 < g
  r6 : recK.R 28 W (w.heap.size + 2) (fun k => k ≠ g ∧ k < s2) v6 l6
  r7 : recK.R 28 W (w.heap.size + 2) (fun k => k ≠ g ∧ k < s2) v7 l7
  r8 : recK.R 28 W s2 (fun k => k ≠ g ∧ k < s3) v8 l8
  o2 : w.heap.size + 2 ≤ s2
  o3 : s2 ≤ s3
  o4 : s3 ≤ W.heap.size
section
variable {w w3 w4 w5 W F : World} {g b3 b4 b5 : Nat} {box hd : Array Value} {v6 v7 v8 : Value} {l6 l7 l8 : List Rec}
theorem pg_mk (hF : F = W.setRow g hd) (hS : MAcc w F box) (hg : W.heap[g]? = some (.cells #[.int .i64 0, .bool false, .int .i64 0, .int .i64 0, .int .i64 0, .slice none 0 0, .slice none 0 0, .slice none 0 0, .slice none 0 0] 59 (0, 0))) (lt : w.heap.size + 1 < g)
    (r6 : recK.R 28 w3 b3 (fun _ => True) v6 l6) (r7 : recK.R 28 w4 b4 (fun _ => True) v7 l7) (r8 : recK.R 28 w5 b5 (fun _ => True) v8 l8)
    (E34 : ∀ k : Nat, k < w3.heap.size → w4.heap[k]? = w3.heap[k]?) (E45 : ∀ k : Nat, k < w4.heap.size → w5.heap[k]? = w4.heap[k]?) (E5 : ∀ k : Nat, k < w5.heap.size → W.heap[k]? = w5.heap[k]?)
    (s34 : w3.heap.size ≤ w4.heap.size) (s45 : w4.heap.size ≤ w5.heap.size) (o6 : g < b3 ∨ w3.heap.size ≤ g) (o7 : g < b4 ∨ w4.heap.size ≤ g) (o8 : g < b5 ∨ w5.heap.size ≤ g)
    (q3 : w.heap.size + 2 ≤ b3) (q4 : w.heap.size + 2 ≤ b4) (q5 : w4.heap.size ≤ b5) (q6 : w.heap.size + 2 ≤ w4.heap.size) (q7 : w5.heap.size ≤ W.heap.size) : PG w F g w4.heap.size w5.heap.size box hd v6 v7 v8 l6 l7 l8 := by
  subst hF
  have hO : ∀ k, k ≠ g → (W.setRow g hd).heap[k]? = W.heap[k]? := fun k hk => setRow_other _ _ _ _ hk
  exact ⟨hS, setRow_heap _ _ _ _ _ _ hg, lt, R_fin0 r6 q3 o6 s34 (fun k hk hl => (hO k hk).trans ((E5 k (by omega)).trans ((E45 k (by omega)).trans (E34 k hl)))),
    R_fin0 r7 q4 o7 (Nat.le_refl _) (fun k hk hl => (hO k hk).trans ((E5 k (by omega)).trans (E45 k hl))), R_fin0 r8 q5 o8 (Nat.le_refl _) (fun k hk hl => (hO k hk).trans (E5 k hl)), q6, s45, by rw [size_setRow]; exact q7⟩
end
/-- Between the loop's rounds. -/
structure PW (w wc W : World) (g : Nat) (box : Array Value) (j1 : Int) (rp : Bool) (j2 j3 j4 : Int) (v5 v6 v7 v8 : Value) (ys : List Qu) : Prop where
  acc : MAcc w W box
  hg : W.heap[g]? = some (.cells #[.int .i64 j1, .bool rp, .int .i64 j2, .int .i64 j3, .int .i64 j4, v5, v6, v7, v8] 59 (0, 0))
  oth : ∀ k, k < wc.heap.size → k ≠ g → W.heap[k]? = wc.heap[k]?
  r5 : quK.R 30 W wc.heap.size (fun _ => True) v5 ys
  sz : wc.heap.size ≤ W.heap.size
section
variable {w wc W W' : World} {g : Nat} {box : Array Value} {j1 : Int} {rp : Bool} {j2 j3 j4 : Int} {v5 v6 v7 v8 : Value} {ys : List Qu}
theorem PW.step (h : PW w wc W g box j1 rp j2 j3 j4 v5 v6 v7 v8 ys) (hb : Below W.heap.size W W') : PW w wc W' g box j1 rp j2 j3 j4 v5 v6 v7 v8 ys :=
  ⟨⟨newA hb h.acc.hb, newA hb h.acc.hz, below_step h.acc.be hb⟩, newA hb h.hg, fun k hk hkg => (hb.block k (by have := h.sz; omega)).trans (h.oth k hk hkg), Kd.R_below h.r5 hb, Nat.le_trans h.sz hb.size⟩
theorem PW.put (h : PW w wc W g box j1 rp j2 j3 j4 v5 v6 v7 v8 ys) (hg : g < wc.heap.size) (hgw : w.heap.size + 1 < g) (hB : Below wc.heap.size W W') (hs : wc.heap.size ≤ W'.heap.size) {x : Value} {zs : List Qu} (hR : quK.R 30 W' wc.heap.size (fun _ => True) x zs) :
    PW w wc (W'.setCell ⟨g, 5, none⟩ x) g box j1 rp j2 j3 j4 x v6 v7 v8 zs :=
  ⟨⟨(Below.heap_setCell W' ⟨g, 5, none⟩ x _ (by show w.heap.size ≠ g; omega)).trans ((hB.block _ (by omega)).trans h.acc.hb), (Below.heap_setCell W' ⟨g, 5, none⟩ x _ (by show w.heap.size + 1 ≠ g; omega)).trans ((hB.block _ (by omega)).trans h.acc.hz),
    (h.acc.be.trans (hB.mono (by omega))).setCell (p := ⟨g, 5, none⟩) (by show w.heap.size ≤ g; omega) x⟩,
    blk_put ((hB.block _ hg).trans h.hg) 5 x rfl, fun k hk hkg => (Below.heap_setCell W' ⟨g, 5, none⟩ x k hkg).trans ((hB.block k hk).trans (h.oth k hk hkg)),
    Kd.R_mono (Kd.R_far (p := ⟨g, 5, none⟩) (Kd.R_bound hR) (fun k hk => by have := hk.2.1; show k ≠ g; omega) x) (fun _ _ => trivial), by simpa using hs⟩
end
/-- A question's block, at hand. -/
abbrev SQ (qb : Nat) (n : L) (t c : Int) (w' : World) : Prop := w'.heap[qb]? = some (.cells #[.string (mkB n), .int .i64 t, .int .i64 c] 30 (0, 0)) ∧ w'.cell? ⟨qb, 0, none⟩ = some (.string (mkB n)) ∧ w'.cell? ⟨qb, 1, none⟩ = some (.int .i64 t) ∧ w'.cell? ⟨qb, 2, none⟩ = some (.int .i64 c)
section
variable {qb : Nat} {n : L} {t c : Int} {W W' : World}
theorem sq_mk (h : W.heap[qb]? = some (.cells #[.string (mkB n), .int .i64 t, .int .i64 c] 30 (0, 0))) : SQ qb n t c W := ⟨h, blk_cell h 0, blk_cell h 1, blk_cell h 2⟩
theorem sq_below (h : SQ qb n t c W) (hb : Below W.heap.size W W') : SQ qb n t c W' := sq_mk (newA hb h.1)
theorem sq_alloc (h : SQ qb n t c W) (o : Obj) : SQ qb n t c (W.alloc o) := sq_below h ((Below.refl _ _).alloc (Nat.le_refl _) o)
theorem sq_grown (h : SQ qb n t c W) {r : Option Nat} (hg : W.grownBy W' r) (hr : r ≠ some qb) : SQ qb n t c W' := sq_mk ((hg.block qb (heap_lt h.1) (fun e => hr e.symm)).trans h.1)
theorem sq_set (h : SQ qb n t c W) {g i : Nat} (hg : qb ≠ g) (v : Value) : SQ qb n t c (W.setCell ⟨g, i, none⟩ v) := sq_mk ((Below.heap_setCell W ⟨g, i, none⟩ v _ hg).trans h.1)
end
section
variable {ops : Array Oper} {o : Oper} {a : Act} {Q : Exit → Act → World → Prop} {w0 W : World} {base : Nat} {v : Value} {s x : Operand}
/-- One question behind some, at a step of a region that draws its order. -/
theorem step_qu {K : Act → World → Prop} {E : Prop} (hgd : o.guard = none) (ho : o.op = .call { callee := .builtin .append, args := #[s, x], argTypes := #[56, 56] })
    (xs : List Qu) (p : Qu) (hs : a.eval s = v) (hx : a.eval x = .slice (some ⟨W.heap.size, 0, none⟩) 1 1) (HO : quK.R 30 W base (fun _ => True) v xs) (HB : Below base w0 W) (hbase : base ≤ W.heap.size) (hl : (xs.length + 1) * 32 ≤ 140737488355328)
    (h : ∀ v1 w1, Kp (quK.R 30 w1 base (fun _ => True) v1 (xs ++ [p])) → Kp (Below base w0 w1) → Kp (W.grownBy w1 v.ownBlock) → Kp (base ≤ w1.heap.size) → K (a.put o.dst v1) w1) :
    if Region.wanted o (yielded ops a.tmps) = true then Oper.wp Tryz.prog o a (W.alloc (.cells #[.string (mkB p.name), .int .i64 p.typ, .int .i64 p.cls] 30)) K Q else E := by
  have hw : Region.wanted o (yielded ops a.tmps) = true := by simp [Region.wanted, hgd]
  have := Kd.R_append_step (P := Tryz.prog) (ops := ops) (o := o) (a := a) (Kc := K) (Q := Q) (w0 := w0) quK base hw s x 56 30 (.agg #[.string ⟨#[]⟩, .int .i64 0, .int .i64 0]) 32 ho Tryz.underlying56 (by kernel_rfl) rfl (by decide) (by decide) v xs p [.string (mkB p.name), .int .i64 p.typ, .int .i64 p.cls] (fun _ => True) (fun _ => False) hs hx (quK_M p) (fun _ h => h.elim) (fun _ _ => trivial) HO HB hbase hl
    (fun v1 w1 h1 h2 h3 _ => h v1 w1 ⟨h1⟩ ⟨h2⟩ ⟨h3⟩ ⟨Nat.le_trans hbase h3.size⟩)
  rw [if_pos hw] at this ⊢
  exact this
end
def PlayMPost2 (m : Msg) (w : World) (e : Ending) (w' : World) : Prop :=
  ∃ A5 A6 A7 A8 c5 c6 c7 c8 s2 s3, e = .returned (.agg (msgA m (.slice A5 m.qs.length c5) (.slice A6 m.an.length c6) (.slice A7 m.au.length c7) (.slice A8 m.ex.length c8))) ∧ w.heap.size ≤ s2 ∧ s2 ≤ s3 ∧ s3 ≤ w'.heap.size ∧ quK.R 30 w' s3 (fun _ => True) (.slice A5 m.qs.length c5) m.qs
    ∧ recK.R 28 w' w.heap.size (fun k => k < s2) (.slice A6 m.an.length c6) m.an ∧ recK.R 28 w' w.heap.size (fun k => k < s2) (.slice A7 m.au.length c7) m.au ∧ recK.R 28 w' s2 (fun k => k < s3) (.slice A8 m.ex.length c8) m.ex ∧ Below w.heap.size w w'
theorem playMsg_calls2 (m : Msg) (A5 A6 A7 A8 : Option Addr) (c5 c6 c7 c8 : Nat) (w : World) (hC : MsgC w m A5 A6 A7 A8) (hcap : MsgCap m c5 c6 c7 c8) (hf : m.fit) :
    Calls Tryz.prog 33 #[.agg (msgA m (.slice A5 m.qs.length c5) (.slice A6 m.an.length c6) (.slice A7 m.au.length c7) (.slice A8 m.ex.length c8))] w (PlayMPost2 (playMsg m) w) := by
  obtain ⟨id, rp, op, co, fl, qs, an, au, ex⟩ := m
  show Calls Tryz.prog 33 #[.agg #[.int .i64 id, .bool rp, .int .i64 op, .int .i64 co, .int .i64 fl, .slice A5 qs.length c5, .slice A6 an.length c6, .slice A7 au.length c7, .slice A8 ex.length c8]] w (PlayMPost2 (playMsg ⟨id, rp, op, co, fl, qs, an, au, ex⟩) w)
  have hC5 := hC.qs
  have hC6 := hC.an
  have hC7 := hC.au
  have hC8 := hC.ex
  dsimp only at hC5 hC6 hC7 hC8
  have hm5 := (C_len hC5).2
  have hn : ∀ r ∈ an ++ au ++ ex, r.name.length ≤ 9223372036854775807 ∧ r.tgt.length ≤ 9223372036854775807 := fun r hr => ⟨(hf.rs r hr).name, (hf.rs r hr).tgt⟩
  have HQN : Kp (∀ q ∈ qs, q.name.length ≤ 9223372036854775807) := ⟨fun q hq => (hf.qs q hq).name⟩
  have HC5 := Kp.mk hC5
  have HSM := Kp.mk (show SMg w id rp op co fl (.slice A5 qs.length c5) (.slice A6 an.length c6) (.slice A7 au.length c7) (.slice A8 ex.length c8) ((w.alloc (.cells #[.int .i64 id, .bool rp, .int .i64 op, .int .i64 co, .int .i64 fl, .slice A5 qs.length c5, .slice A6 an.length c6, .slice A7 au.length c7, .slice A8 ex.length c8] 59)).alloc (.cells #[.int .i64 0, .bool false, .int .i64 0, .int .i64 0, .int .i64 0, .slice none 0 0, .slice none 0 0, .slice none 0 0, .slice none 0 0] 59)) from by
    obtain ⟨t0, t1, tb⟩ := two_new w (.cells #[.int .i64 id, .bool rp, .int .i64 op, .int .i64 co, .int .i64 fl, .slice A5 qs.length c5, .slice A6 an.length c6, .slice A7 au.length c7, .slice A8 ex.length c8] 59) (.cells #[.int .i64 0, .bool false, .int .i64 0, .int .i64 0, .int .i64 0, .slice none 0 0, .slice none 0 0, .slice none 0 0, .slice none 0 0] 59)
    exact sm_mk ⟨t0, t1, tb⟩)
  obtain ⟨j1, hj1⟩ : ∃ j, portV id = j := ⟨_, rfl⟩
  obtain ⟨j2, hj2⟩ : ∃ j, modV 16 op = j := ⟨_, rfl⟩
  obtain ⟨j3, hj3⟩ : ∃ j, modV 16 co = j := ⟨_, rfl⟩
  obtain ⟨j4, hj4⟩ : ∃ j, modV 128 fl = j := ⟨_, rfl⟩
  have HJ : Kp (IntKind.i64.wrap ((IntKind.u64.wrap op).tmod 16) = j2 ∧ IntKind.i64.wrap ((IntKind.u64.wrap co).tmod 16) = j3 ∧ IntKind.i64.wrap ((IntKind.u64.wrap fl).tmod 128) = j4) := ⟨by
    rw [← hj2, ← hj3, ← hj4]
    unfold modV wrap64
    rw [IntKind.wrap_i64, IntKind.wrap_i64, IntKind.wrap_i64]
    exact ⟨rfl, rfl, rfl⟩⟩
  have HPI : Kp (∀ W, Calls Tryz.prog 73 #[.int .i64 id] W fun e w' => e = .returned (.int .i64 j1) ∧ W = w') := ⟨fun W => hj1 ▸ port_calls id W⟩
  have HR6 : Kp (∀ W, Below w.heap.size w W → Calls Tryz.prog 74 #[.slice A6 an.length c6] W (Gives (Kd.slice 28 recK) ((an.take 8).map playR) W)) := ⟨fun W hb => playRecs_calls A6 c6 an W (Kd.C_below hC6 hb) (fun r hr => hn r (by simp [hr]))⟩
  have HR7 : Kp (∀ W, Below w.heap.size w W → Calls Tryz.prog 74 #[.slice A7 au.length c7] W (Gives (Kd.slice 28 recK) ((au.take 8).map playR) W)) := ⟨fun W hb => playRecs_calls A7 c7 au W (Kd.C_below hC7 hb) (fun r hr => hn r (by simp [hr]))⟩
  have HR8 : Kp (∀ W, Below w.heap.size w W → Calls Tryz.prog 74 #[.slice A8 ex.length c8] W (Gives (Kd.slice 28 recK) ((ex.take 8).map playR) W)) := ⟨fun W hb => playRecs_calls A8 c8 ex W (Kd.C_below hC8 hb) (fun r hr => hn r (by simp [hr]))⟩
  obtain ⟨l6, h6⟩ : ∃ l, (an.take 8).map playR = l := ⟨_, rfl⟩
  obtain ⟨l7, h7⟩ : ∃ l, (au.take 8).map playR = l := ⟨_, rfl⟩
  obtain ⟨l8, h8⟩ : ∃ l, (ex.take 8).map playR = l := ⟨_, rfl⟩
  obtain ⟨qf, hqf⟩ : ∃ l, (qs.take 4).map playQ = l := ⟨_, rfl⟩
  have HQF := Kp.mk hqf
  have hpm : playMsg ⟨id, rp, op, co, fl, qs, an, au, ex⟩ = ⟨j1, rp, j2, j3, j4, qf, l6, l7, l8⟩ := by
    unfold playMsg
    dsimp only
    rw [hj1, hj2, hj3, hj4, h6, h7, h8, hqf]
  rw [hpm]
  rw [h6] at HR6
  rw [h7] at HR7
  rw [h8] at HR8
  clear hC hn hC5 hC6 hC7 hC8 h6 h7 h8 hf hcap hpm hqf hj1 hj2 hj3 hj4
  go_enter Tryz.func33, Tryz.ntmps33
  go_upto_region 1 with (fail)
  generalize (w.alloc (.cells #[.int .i64 id, .bool rp, .int .i64 op, .int .i64 co, .int .i64 fl, .slice A5 qs.length c5, .slice A6 an.length c6, .slice A7 au.length c7, .slice A8 ex.length c8] 59)).alloc (.cells #[.int .i64 0, .bool false, .int .i64 0, .int .i64 0, .int .i64 0, .slice none 0 0, .slice none 0 0, .slice none 0 0, .slice none 0 0] 59) = w1 at HSM ⊢
  go_cut [3] (fun v3 wx => ∃ (g s2 s3 : Nat) (B6 B7 B8 : Option Addr) (k6 k7 k8 : Nat), v3 = .pointer (some ⟨g, 0, none⟩) ∧ Kp (PG w wx g s2 s3 #[.int .i64 id, .bool rp, .int .i64 op, .int .i64 co, .int .i64 fl, .slice A5 qs.length c5, .slice A6 an.length c6, .slice A7 au.length c7, .slice A8 ex.length c8] #[.int .i64 j1, .bool rp, .int .i64 j2, .int .i64 j3, .int .i64 j4, .slice none 0 0, .slice B6 l6.length k6, .slice B7 l7.length k7, .slice B8 l8.length k8] (.slice B6 l6.length k6) (.slice B7 l7.length k7) (.slice B8 l8.length k8) l6 l7 l8))
  case first =>
    obtain ⟨X, hX, hXr, hXn⟩ : ∃ X : Addr → List Value → Nat → Sem Unit, (∀ p l, storeCells p l 0 = X p l 0) ∧ (∀ (W : World) (g : Nat) (id : Int) (rp : Bool) (op co fl : Int) (A6 A7 A8 : Option Addr) (n6 n7 n8 c6 c7 c8 : Nat), W.heap[g]? = some (.cells #[.int .i64 0, .bool false, .int .i64 0, .int .i64 0, .int .i64 0, .slice none 0 0, .slice none 0 0, .slice none 0 0, .slice none 0 0] 59 (0, 0)) → (X ⟨g, 0, none⟩ [.int .i64 id, .bool rp, .int .i64 op, .int .i64 co, .int .i64 fl, .slice none 0 0, .slice A6 n6 c6, .slice A7 n7 c7, .slice A8 n8 c8] 0).run Tryz.prog W = .ok () (W.setRow g #[.int .i64 id, .bool rp, .int .i64 op, .int .i64 co, .int .i64 fl, .slice none 0 0, .slice A6 n6 c6, .slice A7 n7 c7, .slice A8 n8 c8])) ∧
        (∀ (W : World) (id : Int) (rp : Bool) (op co fl : Int) (A6 A7 A8 : Option Addr) (n6 n7 n8 c6 c7 c8 : Nat), (X ⟨W.heap.size, 0, none⟩ [.int .i64 id, .bool rp, .int .i64 op, .int .i64 co, .int .i64 fl, .slice none 0 0, .slice A6 n6 c6, .slice A7 n7 c7, .slice A8 n8 c8] 0).run Tryz.prog (W.alloc (.cells #[.int .i64 0, .bool false, .int .i64 0, .int .i64 0, .int .i64 0, .slice none 0 0, .slice none 0 0, .slice none 0 0, .slice none 0 0] 59)) = .ok () ((W.alloc (.cells #[.int .i64 0, .bool false, .int .i64 0, .int .i64 0, .int .i64 0, .slice none 0 0, .slice none 0 0, .slice none 0 0, .slice none 0 0] 59)).setRow W.heap.size #[.int .i64 id, .bool rp, .int .i64 op, .int .i64 co, .int .i64 fl, .slice none 0 0, .slice A6 n6 c6, .slice A7 n7 c7, .slice A8 n8 c8])) := ⟨fun a l i => storeCells a l i, fun _ _ => rfl, put_msgP, fun W id rp op co fl A6 A7 A8 n6 n7 n8 c6 c7 c8 => put_msgP _ _ id rp op co fl A6 A7 A8 n6 n7 n8 c6 c7 c8 (heap_new W _)⟩
    have HLT : Kp (∀ W, SMg w id rp op co fl (.slice A5 qs.length c5) (.slice A6 an.length c6) (.slice A7 au.length c7) (.slice A8 ex.length c8) W → w.heap.size + 1 < W.heap.size) := ⟨fun W h => sm_lt h⟩
    have HSD := Kp.mk (sm_below HSM.out (below_drew (Below.refl _ _)))
    have HL1 := Kp.mk (sm_lt HSM.out)
    go_region_held3 (fun w' => MAcc w w' #[.int .i64 id, .bool rp, .int .i64 op, .int .i64 co, .int .i64 fl, .slice A5 qs.length c5, .slice A6 an.length c6, .slice A7 au.length c7, .slice A8 ex.length c8] ∧ w'.cell? ⟨w.heap.size, 0, none⟩ = some (.int .i64 id) ∧ w'.cell? ⟨w.heap.size, 1, none⟩ = some (.bool rp) ∧ w'.cell? ⟨w.heap.size, 2, none⟩ = some (.int .i64 op) ∧ w'.cell? ⟨w.heap.size, 3, none⟩ = some (.int .i64 co) ∧ w'.cell? ⟨w.heap.size, 4, none⟩ = some (.int .i64 fl) ∧ w'.cell? ⟨w.heap.size, 6, none⟩ = some (.slice A6 an.length c6) ∧ w'.cell? ⟨w.heap.size, 7, none⟩ = some (.slice A7 au.length c7) ∧ w'.cell? ⟨w.heap.size, 8, none⟩ = some (.slice A8 ex.length c8))
      (first | assumption | exact HSD.out | exact sm_below (by assumption) HB5.out | exact sm_below (by assumption) HB4.out | exact sm_below (by assumption) HB3.out | exact sm_alloc (by assumption) _ | exact sm_row (by assumption) HL1.out _ | exact sm_row (by assumption) HL3.out _ | exact sm_row (by assumption) HL4.out _ | exact sm_row (by assumption) HL5.out _ | fail)
      (first
        | (go_at_call 73; (with_reducible refine (HPI.out _).mono ?_); rintro e2 w2 ⟨rfl, rfl⟩)
        | (go_at_call 74; (with_reducible refine (HR6.out _ (sm_be (by assumption))).mono ?_); rintro e3 w3 ⟨v6, rfl, hM6, hb3⟩; have HB3 := Kp.mk hb3; have HL3 := Kp.mk (Nat.lt_of_lt_of_le (HLT.out _ (by assumption)) hb3.size); have HM6 := Kp.mk (slice_M hM6); obtain ⟨A6', c6', rfl⟩ := Kd.R_slice HM6.out; (first | (have HG3 := Kp.mk (newA hb3 (heap_new _ _)); have hx3 := fun id rp op co fl A6 A7 A8 n6 n7 n8 c6 c7 c8 => hXr w3 _ id rp op co fl A6 A7 A8 n6 n7 n8 c6 c7 c8 HG3.out) | skip); clear hb3 hM6)
        | (go_at_call 74; (with_reducible refine (HR7.out _ (sm_be (by assumption))).mono ?_); rintro e4 w4 ⟨v7, rfl, hM7, hb4⟩; have HB4 := Kp.mk hb4; have HL4 := Kp.mk (Nat.lt_of_lt_of_le (HLT.out _ (by assumption)) hb4.size); have HM7 := Kp.mk (slice_M hM7); obtain ⟨A7', c7', rfl⟩ := Kd.R_slice HM7.out; (first | (have HG4 := Kp.mk (newA hb4 HG3.out); have hx4 := fun id rp op co fl A6 A7 A8 n6 n7 n8 c6 c7 c8 => hXr w4 _ id rp op co fl A6 A7 A8 n6 n7 n8 c6 c7 c8 HG4.out) | (have HG4 := Kp.mk (newA hb4 (heap_new _ _)); have hx4 := fun id rp op co fl A6 A7 A8 n6 n7 n8 c6 c7 c8 => hXr w4 _ id rp op co fl A6 A7 A8 n6 n7 n8 c6 c7 c8 HG4.out) | skip); clear hb4 hM7)
        | (go_at_call 74; (with_reducible refine (HR8.out _ (sm_be (by assumption))).mono ?_); rintro e5 w5 ⟨v8, rfl, hM8, hb5⟩; have HB5 := Kp.mk hb5; have HL5 := Kp.mk (Nat.lt_of_lt_of_le (HLT.out _ (by assumption)) hb5.size); have HM8 := Kp.mk (slice_M hM8); obtain ⟨A8', c8', rfl⟩ := Kd.R_slice HM8.out; (first | (have HG5 := Kp.mk (newA hb5 HG4.out); have hx5 := fun id rp op co fl A6 A7 A8 n6 n7 n8 c6 c7 c8 => hXr w5 _ id rp op co fl A6 A7 A8 n6 n7 n8 c6 c7 c8 HG5.out) | (have HG5 := Kp.mk (newA hb5 (heap_new _ _)); have hx5 := fun id rp op co fl A6 A7 A8 n6 n7 n8 c6 c7 c8 => hXr w5 _ id rp op co fl A6 A7 A8 n6 n7 n8 c6 c7 c8 HG5.out) | skip); clear hb5 hM8)
        | fail)
    all_goals
      clear hX hXr hXn
      have z3 := HB3.out.size
      have z4 := HB4.out.size
      have z5 := HB5.out.size
      have z1 := HL1.out
      first
        | (have hPG := pg_mk (w := w) (box := #[.int .i64 id, .bool rp, .int .i64 op, .int .i64 co, .int .i64 fl, .slice A5 qs.length c5, .slice A6 an.length c6, .slice A7 au.length c7, .slice A8 ex.length c8]) (hd := #[.int .i64 j1, .bool rp, .int .i64 (IntKind.i64.wrap ((IntKind.u64.wrap op).tmod 16)), .int .i64 (IntKind.i64.wrap ((IntKind.u64.wrap co).tmod 16)), .int .i64 (IntKind.i64.wrap ((IntKind.u64.wrap fl).tmod 128)), .slice none 0 0, .slice A6' l6.length c6', .slice A7' l7.length c7', .slice A8' l8.length c8']) (W := w5.alloc (.cells #[.int .i64 0, .bool false, .int .i64 0, .int .i64 0, .int .i64 0, .slice none 0 0, .slice none 0 0, .slice none 0 0, .slice none 0 0] 59)) (g := w5.heap.size) (F := (w5.alloc (.cells #[.int .i64 0, .bool false, .int .i64 0, .int .i64 0, .int .i64 0, .slice none 0 0, .slice none 0 0, .slice none 0 0, .slice none 0 0] 59)).setRow w5.heap.size #[.int .i64 j1, .bool rp, .int .i64 (IntKind.i64.wrap ((IntKind.u64.wrap op).tmod 16)), .int .i64 (IntKind.i64.wrap ((IntKind.u64.wrap co).tmod 16)), .int .i64 (IntKind.i64.wrap ((IntKind.u64.wrap fl).tmod 128)), .slice none 0 0, .slice A6' l6.length c6', .slice A7' l7.length c7', .slice A8' l8.length c8']) rfl (And.left (show SMg w id rp op co fl (.slice A5 qs.length c5) (.slice A6 an.length c6) (.slice A7 au.length c7) (.slice A8 ex.length c8) ((w5.alloc (.cells #[.int .i64 0, .bool false, .int .i64 0, .int .i64 0, .int .i64 0, .slice none 0 0, .slice none 0 0, .slice none 0 0, .slice none 0 0] 59)).setRow w5.heap.size #[.int .i64 j1, .bool rp, .int .i64 (IntKind.i64.wrap ((IntKind.u64.wrap op).tmod 16)), .int .i64 (IntKind.i64.wrap ((IntKind.u64.wrap co).tmod 16)), .int .i64 (IntKind.i64.wrap ((IntKind.u64.wrap fl).tmod 128)), .slice none 0 0, .slice A6' l6.length c6', .slice A7' l7.length c7', .slice A8' l8.length c8']) by assumption)) (heap_new _ _) HL5.out HM6.out HM7.out HM8.out (by (first | exact fun k hk => HB4.out.block k hk | exact fun k hk => (HB4.out.block k (by simp; omega)).trans (heap_alloc_lt _ _ _ hk))) (by (first | exact fun k hk => HB5.out.block k hk | exact fun k hk => (HB5.out.block k (by simp; omega)).trans (heap_alloc_lt _ _ _ hk))) (fun k hk => heap_alloc_lt _ _ _ hk) (by first | omega | (simp at z4 <;> omega)) (by first | omega | (simp at z5 <;> omega)) (by first | omega | (simp at z3 z4 z5 ⊢ <;> omega)) (by first | omega | (simp at z3 z4 z5 ⊢ <;> omega)) (by first | omega | (simp at z3 z4 z5 ⊢ <;> omega)) (by first | omega | (simp at z3 z4 z5 ⊢ <;> omega)) (by first | omega | (simp at z3 z4 z5 ⊢ <;> omega)) (by first | omega | (simp at z3 z4 z5 ⊢ <;> omega)) (by first | omega | (simp at z3 z4 z5 ⊢ <;> omega)) (by first | omega | (simp at z3 z4 z5 ⊢ <;> omega))
           generalize (w5.alloc (.cells #[.int .i64 0, .bool false, .int .i64 0, .int .i64 0, .int .i64 0, .slice none 0 0, .slice none 0 0, .slice none 0 0, .slice none 0 0] 59)).setRow w5.heap.size #[.int .i64 j1, .bool rp, .int .i64 (IntKind.i64.wrap ((IntKind.u64.wrap op).tmod 16)), .int .i64 (IntKind.i64.wrap ((IntKind.u64.wrap co).tmod 16)), .int .i64 (IntKind.i64.wrap ((IntKind.u64.wrap fl).tmod 128)), .slice none 0 0, .slice A6' l6.length c6', .slice A7' l7.length c7', .slice A8' l8.length c8'] = wx at hPG ⊢)
        | (have hPG := pg_mk (w := w) (box := #[.int .i64 id, .bool rp, .int .i64 op, .int .i64 co, .int .i64 fl, .slice A5 qs.length c5, .slice A6 an.length c6, .slice A7 au.length c7, .slice A8 ex.length c8]) (hd := #[.int .i64 j1, .bool rp, .int .i64 (IntKind.i64.wrap ((IntKind.u64.wrap op).tmod 16)), .int .i64 (IntKind.i64.wrap ((IntKind.u64.wrap co).tmod 16)), .int .i64 (IntKind.i64.wrap ((IntKind.u64.wrap fl).tmod 128)), .slice none 0 0, .slice A6' l6.length c6', .slice A7' l7.length c7', .slice A8' l8.length c8']) (W := w5) (g := w4.heap.size) (F := w5.setRow w4.heap.size #[.int .i64 j1, .bool rp, .int .i64 (IntKind.i64.wrap ((IntKind.u64.wrap op).tmod 16)), .int .i64 (IntKind.i64.wrap ((IntKind.u64.wrap co).tmod 16)), .int .i64 (IntKind.i64.wrap ((IntKind.u64.wrap fl).tmod 128)), .slice none 0 0, .slice A6' l6.length c6', .slice A7' l7.length c7', .slice A8' l8.length c8']) rfl (And.left (show SMg w id rp op co fl (.slice A5 qs.length c5) (.slice A6 an.length c6) (.slice A7 au.length c7) (.slice A8 ex.length c8) (w5.setRow w4.heap.size #[.int .i64 j1, .bool rp, .int .i64 (IntKind.i64.wrap ((IntKind.u64.wrap op).tmod 16)), .int .i64 (IntKind.i64.wrap ((IntKind.u64.wrap co).tmod 16)), .int .i64 (IntKind.i64.wrap ((IntKind.u64.wrap fl).tmod 128)), .slice none 0 0, .slice A6' l6.length c6', .slice A7' l7.length c7', .slice A8' l8.length c8']) by assumption)) HG5.out HL4.out HM6.out HM7.out HM8.out (by (first | exact fun k hk => HB4.out.block k hk | exact fun k hk => (HB4.out.block k (by simp; omega)).trans (heap_alloc_lt _ _ _ hk))) (by (first | exact fun k hk => HB5.out.block k hk | exact fun k hk => (HB5.out.block k (by simp; omega)).trans (heap_alloc_lt _ _ _ hk))) (fun _ _ => rfl) (by first | omega | (simp at z4 <;> omega)) (by first | omega | (simp at z5 <;> omega)) (by first | omega | (simp at z3 z4 z5 ⊢ <;> omega)) (by first | omega | (simp at z3 z4 z5 ⊢ <;> omega)) (by first | omega | (simp at z3 z4 z5 ⊢ <;> omega)) (by first | omega | (simp at z3 z4 z5 ⊢ <;> omega)) (by first | omega | (simp at z3 z4 z5 ⊢ <;> omega)) (by first | omega | (simp at z3 z4 z5 ⊢ <;> omega)) (by first | omega | (simp at z3 z4 z5 ⊢ <;> omega)) (by first | omega | (simp at z3 z4 z5 ⊢ <;> omega))
           generalize w5.setRow w4.heap.size #[.int .i64 j1, .bool rp, .int .i64 (IntKind.i64.wrap ((IntKind.u64.wrap op).tmod 16)), .int .i64 (IntKind.i64.wrap ((IntKind.u64.wrap co).tmod 16)), .int .i64 (IntKind.i64.wrap ((IntKind.u64.wrap fl).tmod 128)), .slice none 0 0, .slice A6' l6.length c6', .slice A7' l7.length c7', .slice A8' l8.length c8'] = wx at hPG ⊢)
        | (have hPG := pg_mk (w := w) (box := #[.int .i64 id, .bool rp, .int .i64 op, .int .i64 co, .int .i64 fl, .slice A5 qs.length c5, .slice A6 an.length c6, .slice A7 au.length c7, .slice A8 ex.length c8]) (hd := #[.int .i64 j1, .bool rp, .int .i64 (IntKind.i64.wrap ((IntKind.u64.wrap op).tmod 16)), .int .i64 (IntKind.i64.wrap ((IntKind.u64.wrap co).tmod 16)), .int .i64 (IntKind.i64.wrap ((IntKind.u64.wrap fl).tmod 128)), .slice none 0 0, .slice A6' l6.length c6', .slice A7' l7.length c7', .slice A8' l8.length c8']) (W := w5) (g := w3.heap.size) (F := w5.setRow w3.heap.size #[.int .i64 j1, .bool rp, .int .i64 (IntKind.i64.wrap ((IntKind.u64.wrap op).tmod 16)), .int .i64 (IntKind.i64.wrap ((IntKind.u64.wrap co).tmod 16)), .int .i64 (IntKind.i64.wrap ((IntKind.u64.wrap fl).tmod 128)), .slice none 0 0, .slice A6' l6.length c6', .slice A7' l7.length c7', .slice A8' l8.length c8']) rfl (And.left (show SMg w id rp op co fl (.slice A5 qs.length c5) (.slice A6 an.length c6) (.slice A7 au.length c7) (.slice A8 ex.length c8) (w5.setRow w3.heap.size #[.int .i64 j1, .bool rp, .int .i64 (IntKind.i64.wrap ((IntKind.u64.wrap op).tmod 16)), .int .i64 (IntKind.i64.wrap ((IntKind.u64.wrap co).tmod 16)), .int .i64 (IntKind.i64.wrap ((IntKind.u64.wrap fl).tmod 128)), .slice none 0 0, .slice A6' l6.length c6', .slice A7' l7.length c7', .slice A8' l8.length c8']) by assumption)) HG5.out HL3.out HM6.out HM7.out HM8.out (by (first | exact fun k hk => HB4.out.block k hk | exact fun k hk => (HB4.out.block k (by simp; omega)).trans (heap_alloc_lt _ _ _ hk))) (by (first | exact fun k hk => HB5.out.block k hk | exact fun k hk => (HB5.out.block k (by simp; omega)).trans (heap_alloc_lt _ _ _ hk))) (fun _ _ => rfl) (by first | omega | (simp at z4 <;> omega)) (by first | omega | (simp at z5 <;> omega)) (by first | omega | (simp at z3 z4 z5 ⊢ <;> omega)) (by first | omega | (simp at z3 z4 z5 ⊢ <;> omega)) (by first | omega | (simp at z3 z4 z5 ⊢ <;> omega)) (by first | omega | (simp at z3 z4 z5 ⊢ <;> omega)) (by first | omega | (simp at z3 z4 z5 ⊢ <;> omega)) (by first | omega | (simp at z3 z4 z5 ⊢ <;> omega)) (by first | omega | (simp at z3 z4 z5 ⊢ <;> omega)) (by first | omega | (simp at z3 z4 z5 ⊢ <;> omega))
           generalize w5.setRow w3.heap.size #[.int .i64 j1, .bool rp, .int .i64 (IntKind.i64.wrap ((IntKind.u64.wrap op).tmod 16)), .int .i64 (IntKind.i64.wrap ((IntKind.u64.wrap co).tmod 16)), .int .i64 (IntKind.i64.wrap ((IntKind.u64.wrap fl).tmod 128)), .slice none 0 0, .slice A6' l6.length c6', .slice A7' l7.length c7', .slice A8' l8.length c8'] = wx at hPG ⊢)
        | (have hPG := pg_mk (w := w) (box := #[.int .i64 id, .bool rp, .int .i64 op, .int .i64 co, .int .i64 fl, .slice A5 qs.length c5, .slice A6 an.length c6, .slice A7 au.length c7, .slice A8 ex.length c8]) (hd := #[.int .i64 j1, .bool rp, .int .i64 (IntKind.i64.wrap ((IntKind.u64.wrap op).tmod 16)), .int .i64 (IntKind.i64.wrap ((IntKind.u64.wrap co).tmod 16)), .int .i64 (IntKind.i64.wrap ((IntKind.u64.wrap fl).tmod 128)), .slice none 0 0, .slice A6' l6.length c6', .slice A7' l7.length c7', .slice A8' l8.length c8']) (W := w5) (g := w1.heap.size) (F := w5.setRow w1.heap.size #[.int .i64 j1, .bool rp, .int .i64 (IntKind.i64.wrap ((IntKind.u64.wrap op).tmod 16)), .int .i64 (IntKind.i64.wrap ((IntKind.u64.wrap co).tmod 16)), .int .i64 (IntKind.i64.wrap ((IntKind.u64.wrap fl).tmod 128)), .slice none 0 0, .slice A6' l6.length c6', .slice A7' l7.length c7', .slice A8' l8.length c8']) rfl (And.left (show SMg w id rp op co fl (.slice A5 qs.length c5) (.slice A6 an.length c6) (.slice A7 au.length c7) (.slice A8 ex.length c8) (w5.setRow w1.heap.size #[.int .i64 j1, .bool rp, .int .i64 (IntKind.i64.wrap ((IntKind.u64.wrap op).tmod 16)), .int .i64 (IntKind.i64.wrap ((IntKind.u64.wrap co).tmod 16)), .int .i64 (IntKind.i64.wrap ((IntKind.u64.wrap fl).tmod 128)), .slice none 0 0, .slice A6' l6.length c6', .slice A7' l7.length c7', .slice A8' l8.length c8']) by assumption)) HG5.out HL1.out HM6.out HM7.out HM8.out (by (first | exact fun k hk => HB4.out.block k hk | exact fun k hk => (HB4.out.block k (by simp; omega)).trans (heap_alloc_lt _ _ _ hk))) (by (first | exact fun k hk => HB5.out.block k hk | exact fun k hk => (HB5.out.block k (by simp; omega)).trans (heap_alloc_lt _ _ _ hk))) (fun _ _ => rfl) (by first | omega | (simp at z4 <;> omega)) (by first | omega | (simp at z5 <;> omega)) (by first | omega | (simp at z3 z4 z5 ⊢ <;> omega)) (by first | omega | (simp at z3 z4 z5 ⊢ <;> omega)) (by first | omega | (simp at z3 z4 z5 ⊢ <;> omega)) (by first | omega | (simp at z3 z4 z5 ⊢ <;> omega)) (by first | omega | (simp at z3 z4 z5 ⊢ <;> omega)) (by first | omega | (simp at z3 z4 z5 ⊢ <;> omega)) (by first | omega | (simp at z3 z4 z5 ⊢ <;> omega)) (by first | omega | (simp at z3 z4 z5 ⊢ <;> omega))
           generalize w5.setRow w1.heap.size #[.int .i64 j1, .bool rp, .int .i64 (IntKind.i64.wrap ((IntKind.u64.wrap op).tmod 16)), .int .i64 (IntKind.i64.wrap ((IntKind.u64.wrap co).tmod 16)), .int .i64 (IntKind.i64.wrap ((IntKind.u64.wrap fl).tmod 128)), .slice none 0 0, .slice A6' l6.length c6', .slice A7' l7.length c7', .slice A8' l8.length c8'] = wx at hPG ⊢)
      rw [HJ.out.1, HJ.out.2.1, HJ.out.2.2] at hPG
      have HP0 := Kp.mk hPG
      clear hPG z3 z4 z5 z1
      clear HB3 HB4 HB5 HM6 HM7 HM8
      go_wp2_with (fail)
      go_meet
      exact ⟨_, _, _, _, _, _, _, _, _, rfl, HP0⟩
  case rest =>
    obtain ⟨g, s2, s3, B6, B7, B8, k6, k7, k8, rfl, HPG⟩ := hcut
    have hgw := HPG.out.lt
    have hgl := heap_lt HPG.out.hg
    have HW0 : Kp (PW w wc wc g #[.int .i64 id, .bool rp, .int .i64 op, .int .i64 co, .int .i64 fl, .slice A5 qs.length c5, .slice A6 an.length c6, .slice A7 au.length c7, .slice A8 ex.length c8] j1 rp j2 j3 j4 (.slice none 0 0) (.slice B6 l6.length k6) (.slice B7 l7.length k7) (.slice B8 l8.length k8) []) := ⟨⟨HPG.out.acc, HPG.out.hg, fun _ _ _ => rfl, Kd.R_nil _ _ _ _ _, Nat.le_refl _⟩⟩
    clear HSM HPI HR6 HR7 HR8 HJ
    go_wp2_with (fail)
    go_loopw [4] (fun i wr => ∃ (k : Nat) (v5 : Value), k ≤ qs.length ∧ k ≤ 4 ∧ i = .int .i64 k ∧ Kp (PW w wc wr g #[.int .i64 id, .bool rp, .int .i64 op, .int .i64 co, .int .i64 fl, .slice A5 qs.length c5, .slice A6 an.length c6, .slice A7 au.length c7, .slice A8 ex.length c8] j1 rp j2 j3 j4 v5 (.slice B6 l6.length k6) (.slice B7 l7.length k7) (.slice B8 l8.length k8) ((qs.take k).map playQ))) (fun i _ => 4 - (intOf i).toNat)
    case atStart => exact ⟨0, _, Nat.zero_le _, by decide, rfl, HW0⟩
    case round =>
      obtain ⟨k, v5, hk1, hk4, rfl, HW⟩ := hrel
      obtain ⟨A', c', rfl⟩ := Kd.R_slice HW.out.r5
      have hc5 := blk_cell HW.out.acc.hb 5
      clear HW0
      by_cases hlt : k < qs.length ∧ k < 4
      · obtain ⟨hk, h4⟩ := hlt
        obtain ⟨qg, qo, rfl, r1⟩ := at_quF (Kd.C_below HC5.out HW.out.acc.be) k hk
        have hnm := HQN.out _ (getD_mem qs Qu.zero k hk)
        have hts := take_snoc qs Qu.zero k hk
        obtain ⟨q, hq⟩ : ∃ q, qs.getD k Qu.zero = q := ⟨_, rfl⟩
        rw [hq] at r1 hnm hts
        obtain ⟨pq, hpq⟩ : ∃ pq, playQ q = pq := ⟨_, rfl⟩
        have hsn : (qs.take (k + 1)).map playQ = (qs.take k).map playQ ++ [pq] := by rw [hts, List.map_append, ← hpq]; rfl
        obtain ⟨qn, qt, qc⟩ := q
        obtain ⟨pn, pt, pc⟩ := pq
        injection hpq with e1 e2 e3
        have HPS : Kp (∀ W, Calls Tryz.prog 36 #[.string (mkB qn)] W fun e w' => e = .returned (.string (mkB pn)) ∧ Below W.heap.size W w') := ⟨fun W => e1 ▸ playnameB qn W hnm⟩
        have HPQ : Kp (∀ W, Calls Tryz.prog 73 #[.int .i64 qt] W fun e w' => e = .returned (.int .i64 pt) ∧ W = w') := ⟨fun W => e2 ▸ port_calls qt W⟩
        have HPR : Kp (∀ W, Calls Tryz.prog 73 #[.int .i64 qc] W fun e w' => e = .returned (.int .i64 pc) ∧ W = w') := ⟨fun W => e3 ▸ port_calls qc W⟩
        have HR1 : Kp (wr.rangeAt qg (qo + k * 3) [.string (mkB qn), .int .i64 qt, .int .i64 qc]) := ⟨r1⟩
        obtain ⟨zs, hzs⟩ : ∃ zs, (qs.take (k + 1)).map playQ = zs := ⟨_, rfl⟩
        have HZS := Kp.mk hzs
        rw [hzs] at hsn
        have HSN := Kp.mk hsn
        clear hzs
        have b1 : decide ((k : Int) < (qs.length : Int)) = true := by simp; omega
        have b2 : decide ((k : Int) < 4) = true := by simp; omega
        have i0 : (0 : Int) ≤ (k : Int) := by omega
        have i1 : (k : Int) < (qs.length : Int) := by omega
        have HME : Kp (k + 1 ≤ qs.length ∧ k + 1 ≤ 4 ∧ 4 - (k + 1) < 4 - k) := ⟨by omega⟩
        obtain ⟨ps, hps⟩ : ∃ ps, (qs.take k).map playQ = ps := ⟨_, rfl⟩
        rw [hps] at HW HSN
        have HLL : Kp ((ps.length + 1) * 32 ≤ 140737488355328) := ⟨by rw [← hps, List.length_map, List.length_take]; omega⟩
        clear hq r1 hnm hts hsn hps hk h4 e1 e2 e3
        go_wp2_with (with_reducible refine wpList_load_mid rfl 30 (.tmp 50) rfl qg (qo + k * 3) rfl _ _ HR1.out Tryz.underlying30 (by kernel_rfl) (by kernel_rfl) ?_)
        have HWA := Kp.mk (HW.out.step ((Below.refl wr.heap.size wr).alloc (Nat.le_refl _) (.cells #[.string (mkB qn), .int .i64 qt, .int .i64 qc] 30)))
        have HSQ := Kp.mk (sq_mk (heap_new wr (.cells #[.string (mkB qn), .int .i64 qt, .int .i64 qc] 30)))
        have HOL : Kp (∀ b, (Value.slice A' ps.length c').ownBlock = some b → b < wr.heap.size) := ⟨R_own_lt HW.out.r5⟩
        have hqb : g < wr.heap.size := Nat.lt_of_lt_of_le hgl HW.out.sz
        clear HW hc5 HR1
        generalize wr.alloc (.cells #[.string (mkB qn), .int .i64 qt, .int .i64 qc] 30) = w4 at HWA HSQ ⊢
        generalize wr.heap.size = qb at HSQ HOL hqb ⊢
        have hqg : qb ≠ g := by omega
        have HWD := Kp.mk (HWA.out.step (below_drew (Below.refl _ _)))
        have HSQD := Kp.mk (sq_below HSQ.out (below_drew (Below.refl _ _)))
        refine start_ (n := 16) (S := fun w' => w'.cell? ⟨g, 5, none⟩ = some (.slice A' ps.length c') ∧ w'.cell? ⟨qb, 0, none⟩ = some (.string (mkB qn)) ∧ w'.cell? ⟨qb, 1, none⟩ = some (.int .i64 qt) ∧ w'.cell? ⟨qb, 2, none⟩ = some (.int .i64 qc)) (ds := [15]) #[false, false, false, false, false, false, false, false, false, false, false, false, false, false, false, false] (by kernel_rfl) rfl rfl ⟨blk_cell HWD.out.hg 5, blk_cell HSQD.out.1 0, blk_cell HSQD.out.1 1, blk_cell HSQD.out.1 2⟩ (fun hHeld => ?_)
        generalize w4.drew = w4d at HWD HSQD hHeld ⊢
        refine pure_ (i := 0) (N := some 52) (v := ?_) (a' := ?_) #[true, false, false, false, false, false, false, false, false, false, false, false, false, false, false, false] rfl rfl (by kernel_rfl) (fun _ _ _ h => h) (Or.inl ⟨by rfl, ?_⟩) ?_ ?_
        rotate_left
        · intro w'
          go_simp
          with_reducible rfl
        rotate_left
        · simp only [Act.put, List.setIfInBounds_toArray, List.set_cons_zero, List.set_cons_succ, i64_w, i32_w]
          rfl
        refine pure_ (i := 2) (N := some 54) (v := ?_) (a' := ?_) #[true, false, true, false, false, false, false, false, false, false, false, false, false, false, false, false] rfl rfl (by kernel_rfl) (fun _ _ _ h => h) (Or.inl ⟨by rfl, ?_⟩) ?_ ?_
        rotate_left
        · intro w'
          go_simp
          with_reducible rfl
        rotate_left
        · simp only [Act.put, List.setIfInBounds_toArray, List.set_cons_zero, List.set_cons_succ, i64_w, i32_w]
          rfl
        refine pure_ (i := 5) (N := some 57) (v := ?_) (a' := ?_) #[true, false, true, false, false, true, false, false, false, false, false, false, false, false, false, false] rfl rfl (by kernel_rfl) (fun _ _ _ h => h) (Or.inl ⟨by rfl, ?_⟩) ?_ ?_
        rotate_left
        · intro w'
          go_simp
          with_reducible rfl
        rotate_left
        · simp only [Act.put, List.setIfInBounds_toArray, List.set_cons_zero, List.set_cons_succ, i64_w, i32_w]
          rfl
        refine pure_ (i := 8) (N := some 60) (v := ?_) (a' := ?_) #[true, false, true, false, false, true, false, false, true, false, false, false, false, false, false, false] rfl rfl (by kernel_rfl) (fun _ _ _ h => h) (Or.inl ⟨by rfl, ?_⟩) ?_ ?_
        rotate_left
        · intro w'
          go_simp
          with_reducible rfl
        rotate_left
        · simp only [Act.put, List.setIfInBounds_toArray, List.set_cons_zero, List.set_cons_succ, i64_w, i32_w]
          rfl
        refine take_ (i := 1) (N := some 53) (v := ?_) (a' := ?_) #[true, true, true, false, false, true, false, false, true, false, false, false, false, false, false, false] rfl rfl (by kernel_rfl) (fun _ _ _ h => h) (Or.inl ⟨by rfl, ?_⟩) hHeld ?_ ?_
        rotate_left
        · rintro w' ⟨z0, z1, z2, z3⟩
          go_simp
          with_reducible rfl
        rotate_left
        · simp only [Act.put, List.setIfInBounds_toArray, List.set_cons_zero, List.set_cons_succ, i64_w, i32_w]
          rfl
        refine take_ (i := 3) (N := some 55) (v := ?_) (a' := ?_) #[true, true, true, true, false, true, false, false, true, false, false, false, false, false, false, false] rfl rfl (by kernel_rfl) (fun _ _ _ h => h) (Or.inl ⟨by rfl, ?_⟩) hHeld ?_ ?_
        rotate_left
        · rintro w' ⟨z0, z1, z2, z3⟩
          go_simp
          with_reducible rfl
        rotate_left
        · simp only [Act.put, List.setIfInBounds_toArray, List.set_cons_zero, List.set_cons_succ, i64_w, i32_w]
          rfl
        refine take_ (i := 6) (N := some 58) (v := ?_) (a' := ?_) #[true, true, true, true, false, true, true, false, true, false, false, false, false, false, false, false] rfl rfl (by kernel_rfl) (fun _ _ _ h => h) (Or.inl ⟨by rfl, ?_⟩) hHeld ?_ ?_
        rotate_left
        · rintro w' ⟨z0, z1, z2, z3⟩
          go_simp
          with_reducible rfl
        rotate_left
        · simp only [Act.put, List.setIfInBounds_toArray, List.set_cons_zero, List.set_cons_succ, i64_w, i32_w]
          rfl
        refine take_ (i := 9) (N := some 61) (v := ?_) (a' := ?_) #[true, true, true, true, false, true, true, false, true, true, false, false, false, false, false, false] rfl rfl (by kernel_rfl) (fun _ _ _ h => h) (Or.inl ⟨by rfl, ?_⟩) hHeld ?_ ?_
        rotate_left
        · rintro w' ⟨z0, z1, z2, z3⟩
          go_simp
          with_reducible rfl
        rotate_left
        · simp only [Act.put, List.setIfInBounds_toArray, List.set_cons_zero, List.set_cons_succ, i64_w, i32_w]
          rfl
        refine one_ (i := 4) (N := some 56) #[true, true, true, true, true, true, true, false, true, true, false, false, false, false, false, false] rfl rfl (by kernel_rfl) (by decide) (fun K hK => ?_)
        refine goes_ Tryz.func36 (by kernel_rfl) rfl #[.string (mkB qn)] (by rfl) rfl rfl (by (try simp only [List.map_toArray, List.map_cons, List.map_nil]); first | done | rfl) ?_
        with_reducible refine (HPS.out _).mono ?_
        rintro e5 w5 ⟨rfl, hb5⟩
        have HW5 := Kp.mk (HWD.out.step hb5)
        have HS5 := Kp.mk (sq_below HSQD.out hb5)
        clear hb5
        refine ⟨_, rfl, ?_⟩
        refine hK.out _ _ ⟨blk_cell HW5.out.hg 5, blk_cell HS5.out.1 0, blk_cell HS5.out.1 1, blk_cell HS5.out.1 2⟩ (fun hHeld => ?_)
        clear hK K
        refine norm_ (a' := ?_) ?_ ?_
        rotate_left
        · show Act.put _ (some 56) _ = _
          simp only [Act.put, List.setIfInBounds_toArray, List.set_cons_zero, List.set_cons_succ, i64_w, i32_w]
          rfl
        refine one_ (i := 7) (N := some 59) #[true, true, true, true, true, true, true, true, true, true, false, false, false, false, false, false] rfl rfl (by kernel_rfl) (by decide) (fun K hK => ?_)
        refine goes_ Tryz.func73 (by kernel_rfl) rfl #[.int .i64 qt] (by rfl) rfl rfl (by (try simp only [List.map_toArray, List.map_cons, List.map_nil]); first | done | rfl) ?_
        with_reducible refine (HPQ.out _).mono ?_
        rintro e6 w6 ⟨rfl, rfl⟩
        refine ⟨_, rfl, ?_⟩
        refine hK.out _ _ ⟨blk_cell HW5.out.hg 5, blk_cell HS5.out.1 0, blk_cell HS5.out.1 1, blk_cell HS5.out.1 2⟩ (fun hHeld => ?_)
        clear hK K
        refine norm_ (a' := ?_) ?_ ?_
        rotate_left
        · show Act.put _ (some 59) _ = _
          simp only [Act.put, List.setIfInBounds_toArray, List.set_cons_zero, List.set_cons_succ, i64_w, i32_w]
          rfl
        refine one_ (i := 10) (N := some 62) #[true, true, true, true, true, true, true, true, true, true, true, false, false, false, false, false] rfl rfl (by kernel_rfl) (by decide) (fun K hK => ?_)
        refine goes_ Tryz.func73 (by kernel_rfl) rfl #[.int .i64 qc] (by rfl) rfl rfl (by (try simp only [List.map_toArray, List.map_cons, List.map_nil]); first | done | rfl) ?_
        with_reducible refine (HPR.out _).mono ?_
        rintro e7 w7 ⟨rfl, rfl⟩
        refine ⟨_, rfl, ?_⟩
        refine hK.out _ _ ⟨blk_cell HW5.out.hg 5, blk_cell HS5.out.1 0, blk_cell HS5.out.1 1, blk_cell HS5.out.1 2⟩ (fun hHeld => ?_)
        clear hK K
        refine norm_ (a' := ?_) ?_ ?_
        rotate_left
        · show Act.put _ (some 62) _ = _
          simp only [Act.put, List.setIfInBounds_toArray, List.set_cons_zero, List.set_cons_succ, i64_w, i32_w]
          rfl
        refine pure_ (i := 11) (N := some 63) (v := ?_) (a' := ?_) #[true, true, true, true, true, true, true, true, true, true, true, true, false, false, false, false] rfl rfl (by kernel_rfl) (fun _ _ _ h => h) (Or.inl ⟨by rfl, ?_⟩) ?_ ?_
        rotate_left
        · intro w'
          go_simp
          with_reducible rfl
        rotate_left
        · simp only [Act.put, List.setIfInBounds_toArray, List.set_cons_zero, List.set_cons_succ, i64_w, i32_w]
          rfl
        refine one_ (i := 12) (N := some 64) #[true, true, true, true, true, true, true, true, true, true, true, true, true, false, false, false] rfl rfl (by kernel_rfl) (by decide) (fun K hK => ?_)
        refine value_ (w1 := ?_) (v := ?_) (by rfl) rfl ?_ ?_
        rotate_left 2
        · go_simp
          constructor
          · rfl
          · rfl
        have HWB := Kp.mk (HW5.out.step ((Below.refl w5.heap.size w5).alloc (Nat.le_refl _) (.cells #[.string (mkB pn), .int .i64 pt, .int .i64 pc] 30)))
        have HSB := Kp.mk (sq_alloc HS5.out (.cells #[.string (mkB pn), .int .i64 pt, .int .i64 pc] 30))
        refine hK.out _ _ ⟨blk_cell HWB.out.hg 5, blk_cell HSB.out.1 0, blk_cell HSB.out.1 1, blk_cell HSB.out.1 2⟩ (fun hHeld => ?_)
        clear hK K
        refine norm_ (a' := ?_) ?_ ?_
        rotate_left
        · show Act.put _ (some 64) _ = _
          simp only [Act.put, List.setIfInBounds_toArray, List.set_cons_zero, List.set_cons_succ, i64_w, i32_w]
          rfl
        refine one_ (i := 13) (N := some 65) #[true, true, true, true, true, true, true, true, true, true, true, true, true, true, false, false] rfl rfl (by kernel_rfl) (by decide) (fun K hK => ?_)
        refine step_qu (w0 := w5) (base := wc.heap.size) (by rfl) (s := .tmp 53) (x := .tmp 64) (v := .slice A' ps.length c') (by rfl) ps ⟨pn, pt, pc⟩ (by rfl) (by rfl) HW5.out.r5 (Below.refl _ _) HW5.out.sz HLL.out ?_
        intro v1 w8 HR8 HB8 HG8 hs8
        have HS8 := Kp.mk (sq_grown HS5.out HG8.out (fun e => Nat.lt_irrefl _ (HOL.out _ e)))
        rw [← HSN.out] at HR8
        obtain ⟨A8', c8', rfl⟩ := Kd.R_slice HR8.out
        have HY8 := Kp.mk ((HB8.out.block g hgl).trans HW5.out.hg)
        have HW8 := Kp.mk (HW5.out.put hgl hgw HB8.out hs8.out HR8.out)
        refine hK.out _ _ ⟨blk_cell HY8.out 5, blk_cell HS8.out.1 0, blk_cell HS8.out.1 1, blk_cell HS8.out.1 2⟩ (fun hHeld => ?_)
        clear hK K
        refine norm_ (a' := ?_) ?_ ?_
        rotate_left
        · show Act.put _ (some 65) _ = _
          simp only [Act.put, List.setIfInBounds_toArray, List.set_cons_zero, List.set_cons_succ, i64_w, i32_w]
          rfl
        refine pure_ (i := 14) (N := some 66) (v := ?_) (a' := ?_) #[true, true, true, true, true, true, true, true, true, true, true, true, true, true, true, false] rfl rfl (by kernel_rfl) (fun _ _ _ h => h) (Or.inl ⟨by rfl, ?_⟩) ?_ ?_
        rotate_left
        · intro w'
          go_simp
          with_reducible rfl
        rotate_left
        · simp only [Act.put, List.setIfInBounds_toArray, List.set_cons_zero, List.set_cons_succ, i64_w, i32_w]
          rfl
        refine last_ (i := 15) (N := none) #[true, true, true, true, true, true, true, true, true, true, true, true, true, true, true, true] rfl rfl (by kernel_rfl) (by decide) (fun K hK => ?_)
        have d8 := blk_cell HY8.out 5
        have f8 := blk_frozen HY8.out 5
        refine skip_ (w1 := ?_) (by rfl) rfl ?_ ?_
        rotate_left
        · go_simp
          rfl
        refine hK.out _ _ ?_
        clear hK K
        refine done_ (by kernel_rfl) ?_
        generalize w8.setCell ⟨g, 5, none⟩ (.slice A8' zs.length c8') = w9 at HW8 ⊢
        clear d8 f8 hHeld HY8 HPS HPQ HPR HSN HWA HWD HSQ HSQD HW5 HS5 HWB HSB HS8 HB8 HG8 HR8
        go_wp2
        refine ⟨⟨k + 1, _, HME.out.1, HME.out.2.1, by go_num, by rw [HZS.out]; exact HW8⟩, ?_⟩
        have hi1 : (intOf (Value.int .i64 ((k : Int) + 1))).toNat = k + 1 := by simp [intOf] <;> omega
        have hi2 : (intOf (Value.int .i64 (k : Int))).toNat = k := by simp [intOf]
        rw [hi1, hi2]
        exact HME.out.2.2
      · have ht : (qs.take k).map playQ = qf := by
          rw [← HQF.out]
          by_cases h : k < qs.length
          · have : k = 4 := by omega
            rw [this]
          · rw [List.take_of_length_le (by omega), List.take_of_length_le (by omega)]
        rw [ht] at HW
        have HG := Kp.mk HW.out.hg
        have HZ := Kp.mk HW.out.acc.hz
        have HBE := Kp.mk HW.out.acc.be
        have R6 := Kp.mk (Kd.R_mono (Kd.R_step HPG.out.r6 (fun k hk hlt => HW.out.oth k hlt hk.1)) (fun _ hk => hk.2))
        have R7 := Kp.mk (Kd.R_mono (Kd.R_step HPG.out.r7 (fun k hk hlt => HW.out.oth k hlt hk.1)) (fun _ hk => hk.2))
        have R8 := Kp.mk (Kd.R_mono (Kd.R_step HPG.out.r8 (fun k hk hlt => HW.out.oth k hlt hk.1)) (fun _ hk => hk.2))
        clear ht
        by_cases h : k < qs.length
        · have b1 : decide ((k : Int) < (qs.length : Int)) = true := by simp; omega
          have b2 : decide ((k : Int) < 4) = false := by simp; omega
          have h4n : ¬ k < 4 := by omega
          have h4i : ¬ (k : Int) < 4 := by omega
          clear hlt
          go_wp2_with (first | (with_reducible refine ld_blk rfl 59 (.tmp 3) rfl g rfl HG Tryz.underlying59 rfl (by kernel_rfl) ?_) | (with_reducible refine st_blk (w0 := w) (base := w.heap.size) rfl 59 (.tmp 2) (.tmp 67) rfl rfl (w.heap.size + 1) _ rfl rfl HZ (by kernel_rfl) (by kernel_rfl) (by kernel_rfl) HBE (Nat.le_succ _) ?_))
          intro w7 Hg7 HO7 HB7 hs7
          go_wp2
          refine bodyPost_ret (results_cell_row rfl _ _ (w.heap.size + 1) _ _ (0, 0) _ rfl Hg7.out Tryz.underlying59 rfl (by kernel_rfl)) rfl ?_
          have y1 : w.heap.size + 1 < wc.heap.size := by omega
          have y2 : w.heap.size ≤ wc.heap.size := by omega
          have y3 : w.heap.size + 1 < w.heap.size + 2 := by omega
          have y4 : w.heap.size ≤ w.heap.size + 2 := by omega
          have y5 : w.heap.size + 1 < s2 := by have := HPG.out.o2; omega
          have y6 : w.heap.size ≤ s2 := by have := HPG.out.o2; omega
          have y7 : s3 ≤ w7.heap.size := by have := HPG.out.o4; have := HW.out.sz; omega
          have S5 := Kd.R_lower (R_stored HW.out.r5 y1 HO7.out) HPG.out.o4
          have S6 := Kd.R_lower (R_stored R6.out y3 HO7.out) y4
          have S7 := Kd.R_lower (R_stored R7.out y3 HO7.out) y4
          have S8 := R_stored R8.out y5 HO7.out
          exact ⟨_, _, _, _, _, _, _, _, _, _, rfl, y6, HPG.out.o3, y7, S5, S6, S7, S8, HB7.out⟩
        · have b1 : decide ((k : Int) < (qs.length : Int)) = false := by simp; omega
          have b1n : decide (k < qs.length) = false := by simp; omega
          have hq : qs.length ≤ k := by omega
          clear hlt
          go_wp2_with (first | (with_reducible refine ld_blk rfl 59 (.tmp 3) rfl g rfl HG Tryz.underlying59 rfl (by kernel_rfl) ?_) | (with_reducible refine st_blk (w0 := w) (base := w.heap.size) rfl 59 (.tmp 2) (.tmp 67) rfl rfl (w.heap.size + 1) _ rfl rfl HZ (by kernel_rfl) (by kernel_rfl) (by kernel_rfl) HBE (Nat.le_succ _) ?_))
          intro w7 Hg7 HO7 HB7 hs7
          go_wp2
          refine bodyPost_ret (results_cell_row rfl _ _ (w.heap.size + 1) _ _ (0, 0) _ rfl Hg7.out Tryz.underlying59 rfl (by kernel_rfl)) rfl ?_
          have y1 : w.heap.size + 1 < wc.heap.size := by omega
          have y2 : w.heap.size ≤ wc.heap.size := by omega
          have y3 : w.heap.size + 1 < w.heap.size + 2 := by omega
          have y4 : w.heap.size ≤ w.heap.size + 2 := by omega
          have y5 : w.heap.size + 1 < s2 := by have := HPG.out.o2; omega
          have y6 : w.heap.size ≤ s2 := by have := HPG.out.o2; omega
          have y7 : s3 ≤ w7.heap.size := by have := HPG.out.o4; have := HW.out.sz; omega
          have S5 := Kd.R_lower (R_stored HW.out.r5 y1 HO7.out) HPG.out.o4
          have S6 := Kd.R_lower (R_stored R6.out y3 HO7.out) y4
          have S7 := Kd.R_lower (R_stored R7.out y3 HO7.out) y4
          have S8 := R_stored R8.out y5 HO7.out
          exact ⟨_, _, _, _, _, _, _, _, _, _, rfl, y6, HPG.out.o3, y7, S5, S6, S7, S8, HB7.out⟩
theorem playMsg_calls (m : Msg) (A5 A6 A7 A8 : Option Addr) (c5 c6 c7 c8 : Nat) (w : World) (hC : MsgC w m A5 A6 A7 A8) (hcap : MsgCap m c5 c6 c7 c8) (hf : m.fit) :
    Calls Tryz.prog 33 #[.agg (msgA m (.slice A5 m.qs.length c5) (.slice A6 m.an.length c6) (.slice A7 m.au.length c7) (.slice A8 m.ex.length c8))] w (PlayMPost (playMsg m) w) :=
  (playMsg_calls2 m A5 A6 A7 A8 c5 c6 c7 c8 w hC hcap hf).mono fun e w' ⟨B5, B6, B7, B8, k5, k6, k7, k8, s2, s3, he, h1, h2, h3, r5, r6, r7, r8, hB⟩ =>
    ⟨B5, B6, B7, B8, k5, k6, k7, k8, he, ⟨Kd.R_lower r5 (by omega), Kd.R_mono r6 (fun _ _ => trivial), Kd.R_mono r7 (fun _ _ => trivial), Kd.R_lower (Kd.R_mono r8 (fun _ _ => trivial)) h1⟩, hB⟩
end Go.Proofs.YtlkneoednkhleaaGreatDoor

namespace Go.Proofs.YtlkneoednkhleaaGreatDoor
open Go Go.RowKit Go.Proofs.YtlkneoednkhleaaGreatDoorW.PrintWords Go.ChangeShapes Go.WideShapes
set_option linter.unusedVariables false
set_option linter.unusedSimpArgs false
set_option maxRecDepth 100000
set_option maxHeartbeats 2000000

theorem opens_msg {H : Type} {enc : TypeId × Value → H} {w : World} {base : Nat} {spare : Nat → Bool} {held : Bool} {fuel : Nat} {cs : List Value} {x : DataW H × List MemPlace}
    (h : DataW.trod enc Tryz.prog w base spare held fuel 59 cs = some x) :
    ∃ (m : Msg) (A5 A6 A7 A8 : Option Addr) (c5 c6 c7 c8 : Nat), cs = (msgA m (.slice A5 m.qs.length c5) (.slice A6 m.an.length c6) (.slice A7 m.au.length c7) (.slice A8 m.ex.length c8)).toList ∧ MsgC w m A5 A6 A7 A8 ∧ MsgCap m c5 c6 c7 c8 ∧ m.fit := by
  obtain ⟨⟨id, rp, op, co, fl, qs, an, au, ex⟩, hK, hw⟩ := (opens_struct Tryz.underlying59 (by kernel_rfl) (opensF_cons rfl (by kernel_rfl) (opens_int Tryz.underlying3) (opensF_cons rfl (by kernel_rfl) (opens_bool Tryz.underlying4) (opensF_cons rfl (by kernel_rfl) (opens_int Tryz.underlying3) (opensF_cons rfl (by kernel_rfl) (opens_int Tryz.underlying3) (opensF_cons rfl (by kernel_rfl) (opens_int Tryz.underlying3)
    (opensF_cons rfl (by kernel_rfl) (opens_slice Tryz.underlying56 (by kernel_rfl) opens_qu) (opensF_cons rfl (by kernel_rfl) (opens_slice Tryz.underlying57 (by kernel_rfl) opens_rec) (opensF_cons rfl (by kernel_rfl) (opens_slice Tryz.underlying57 (by kernel_rfl) opens_rec) (opensF_one rfl (by kernel_rfl) (opens_slice Tryz.underlying57 (by kernel_rfl) opens_rec)))))))))) ) h
  obtain ⟨h1, -, h3, h4, h5, h6, h7, h8, h9⟩ := hw
  obtain ⟨d0, d1, rfl, k0, d2, d3, rfl, k2, d4, d5, rfl, k4, d6, d7, rfl, k6, d8, d9, rfl, k8, da, db, rfl, ⟨A5, c5, rfl, l5, q5⟩, de, df, rfl, ⟨A6, c6, rfl, l6, q6⟩, dg, dh, rfl, ⟨A7, c7, rfl, l7, q7⟩, A8, c8, rfl, l8, q8⟩ := hK
  obtain rfl : d0 = [.int .i64 id] := k0
  obtain rfl : d2 = [.bool rp] := k2
  obtain rfl : d4 = [.int .i64 op] := k4
  obtain rfl : d6 = [.int .i64 co] := k6
  obtain rfl : d8 = [.int .i64 fl] := k8
  refine ⟨⟨id, rp, op, co, fl, qs, an, au, ex⟩, A5, A6, A7, A8, c5, c6, c7, c8, rfl, ⟨q5, q6, q7, q8⟩, ⟨l5, l6, l7, l8⟩, ⟨wf64 h1, wf64 h3, wf64 h4, wf64 h5, h6, fun r hr => ?_⟩⟩
  rcases mem_all.1 hr with hr | hr | hr
  · exact h7 r hr
  · exact h8 r hr
  · exact h9 r hr
theorem open_msg {H : Type} {enc : TypeId × Value → H} {w : World} {base : Nat} {spare : Nat → Bool} {held : Bool} {r : Reach} {b0 : Nat} {v : Value} {dd : DataW H} {ps : List MemPlace} (hval : Value.okWide Tryz.prog w r b0 59 v) (hd : DataW.Trod enc Tryz.prog w base spare held 59 v dd ps) :
    ∃ (m : Msg) (A5 A6 A7 A8 : Option Addr) (c5 c6 c7 c8 : Nat), v = .agg (msgA m (.slice A5 m.qs.length c5) (.slice A6 m.an.length c6) (.slice A7 m.au.length c7) (.slice A8 m.ex.length c8)) ∧ MsgC w m A5 A6 A7 A8 ∧ MsgCap m c5 c6 c7 c8 ∧ m.fit := by
  obtain ⟨cs, rfl, -⟩ := okWide_struct Tryz.underlying59 hval
  obtain ⟨fuel, hf⟩ := hd
  obtain ⟨m, A5, A6, A7, A8, c5, c6, c7, c8, e, hM, hC, hw⟩ := opens_msg hf
  refine ⟨m, A5, A6, A7, A8, c5, c6, c7, c8, ?_, hM, hC, hw⟩
  have h1 : cs.toList = (msgA m (.slice A5 m.qs.length c5) (.slice A6 m.an.length c6) (.slice A7 m.au.length c7) (.slice A8 m.ex.length c8)).toList := e
  rw [Array.toList_inj.1 h1]
end Go.Proofs.YtlkneoednkhleaaGreatDoor
