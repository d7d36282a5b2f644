/-
  Several texts of this seat in one: SameRec, RecF, RecG, RecH, RbA, DmA, DmB, DmC, DmD, DmE, Awake14, DmL, DmN.
-/
import Derived.Test.YtlkneoednkhleaaGreatDoorGs
import Derived.Test.YtlkneoednkhleaaGreatDoorRefP
import Derived.Deep.RegionHeld3
import Derived.Test.YtlkneoednkhleaaGreatDoorZNsA
import Derived.Test.YtlkneoednkhleaaGreatDoorApp
import Derived.Test.YtlkneoednkhleaaGreatDoorCx
import Derived.Test.YtlkneoednkhleaaGreatDoorWApart
import Derived.Lib.AppendZerosOnto
import Derived.Lib.EndianBits
import Derived.Deep.DeepCutAuto
namespace Go.Proofs.YtlkneoednkhleaaGreatDoor
open Go.RowKit Go.Proofs.YtlkneoednkhleaaGreatDoorW.PrintWords Go.Proofs.YtlkneoednkhleaaGreatDoor.P
set_option linter.unusedVariables false
set_option linter.unusedSimpArgs false
set_option maxRecDepth 100000
set_option maxHeartbeats 1000000

/-- A struct that is loaded whole, under a guard that holds. -/
theorem ld_blkG {P : Program} {ops : Array Oper} {rest : List Oper} {o : Oper} {a : Act} {Q : Exit → Act → World → Prop} {w : World} (hw : Region.wanted o (yielded ops a.tmps) = true) (ty : TypeId) (x : Operand) (ho : o.op = .load ty x) (g : Nat) (hx : a.eval x = .pointer (some ⟨g, 0, none⟩)) {t : TypeId} {cs : Array Value} (hg : Kp (w.heap[g]? = some (.cells cs t (0, 0))))
    {d : TypeDesc} (hu : P.underlying ty = some d) (hd : (match d with | .struct _ | .array _ _ => true | _ => false) = true) (hi : (P.info? ty).map (·.size) = some cs.size)
    (h : wpList P ops Q rest (a.put o.dst (.agg cs)) w) : wpList P ops Q (o :: rest) a w :=
  wpList_step fun K hK => by
    rw [if_pos hw]
    exact wp_load_row ty x ho g hx t cs (0, 0) d hg.out hu hd hi (hK _ _ h)
theorem sameRec_calls (rn : L) (rt rc rl : Int) (v : Bool) (b b' : Nat → Int) (tg : L) (d : List Int) (A A' : Option Addr) (c c' : Nat) (w : World) (hb : eq16 [b 0, b 1, b 2, b 3, b 4, b 5, b 6, b 7, b 8, b 9, b 10, b 11, b 12, b 13, b 14, b 15] [b' 0, b' 1, b' 2, b' 3, b' 4, b' 5, b' 6, b' 7, b' 8, b' 9, b' 10, b' 11, b' 12, b' 13, b' 14, b' 15] = true) (h : (Kd.int .u8).C w A d.length d) (hc : d.length ≤ c) (h' : (Kd.int .u8).C w A' d.length d) (hc' : d.length ≤ c') :
    Calls Tryz.prog 20 #[.agg (recA ⟨rn, rt, rc, rl, ⟨v, b⟩, tg, d⟩ (.slice A d.length c)), .agg (recA ⟨rn, rt, rc, rl, ⟨v, b'⟩, tg, d⟩ (.slice A' d.length c'))] w fun e w' => e = .returned (.bool true) ∧ Below w.heap.size w w' := by
  have HC := Kp.mk h
  have HC' := Kp.mk h'
  have heq := fun (w : World) => run_eq_ad v v (b 0) (b 1) (b 2) (b 3) (b 4) (b 5) (b 6) (b 7) (b 8) (b 9) (b 10) (b 11) (b 12) (b 13) (b 14) (b 15) (b' 0) (b' 1) (b' 2) (b' 3) (b' 4) (b' 5) (b' 6) (b' 7) (b' 8) (b' 9) (b' 10) (b' 11) (b' 12) (b' 13) (b' 14) (b' 15) w
  rw [hb] at heq
  have ht : (v == v && true) = true := by cases v <;> rfl
  rw [ht] at heq
  clear h h' hb ht
  show Calls Tryz.prog 20 #[.agg #[.string (mkB rn), .int .i64 rt, .int .i64 rc, .int .u32 rl, .bool v, .int .u8 (b 0), .int .u8 (b 1), .int .u8 (b 2), .int .u8 (b 3), .int .u8 (b 4), .int .u8 (b 5), .int .u8 (b 6), .int .u8 (b 7), .int .u8 (b 8), .int .u8 (b 9), .int .u8 (b 10), .int .u8 (b 11), .int .u8 (b 12), .int .u8 (b 13), .int .u8 (b 14), .int .u8 (b 15), .string (mkB tg), .slice A d.length c], .agg #[.string (mkB rn), .int .i64 rt, .int .i64 rc, .int .u32 rl, .bool v, .int .u8 (b' 0), .int .u8 (b' 1), .int .u8 (b' 2), .int .u8 (b' 3), .int .u8 (b' 4), .int .u8 (b' 5), .int .u8 (b' 6), .int .u8 (b' 7), .int .u8 (b' 8), .int .u8 (b' 9), .int .u8 (b' 10), .int .u8 (b' 11), .int .u8 (b' 12), .int .u8 (b' 13), .int .u8 (b' 14), .int .u8 (b' 15), .string (mkB tg), .slice A' d.length c']] w fun e w' => e = .returned (.bool true) ∧ Below w.heap.size w w'
  have HB := Kp.mk (((Below.refl w.heap.size w).alloc (Nat.le_refl _) (.cells #[.string (mkB rn), .int .i64 rt, .int .i64 rc, .int .u32 rl, .bool v, .int .u8 (b 0), .int .u8 (b 1), .int .u8 (b 2), .int .u8 (b 3), .int .u8 (b 4), .int .u8 (b 5), .int .u8 (b 6), .int .u8 (b 7), .int .u8 (b 8), .int .u8 (b 9), .int .u8 (b 10), .int .u8 (b 11), .int .u8 (b 12), .int .u8 (b 13), .int .u8 (b 14), .int .u8 (b 15), .string (mkB tg), .slice A d.length c] 28)).alloc (by simp) (.cells #[.string (mkB rn), .int .i64 rt, .int .i64 rc, .int .u32 rl, .bool v, .int .u8 (b' 0), .int .u8 (b' 1), .int .u8 (b' 2), .int .u8 (b' 3), .int .u8 (b' 4), .int .u8 (b' 5), .int .u8 (b' 6), .int .u8 (b' 7), .int .u8 (b' 8), .int .u8 (b' 9), .int .u8 (b' 10), .int .u8 (b' 11), .int .u8 (b' 12), .int .u8 (b' 13), .int .u8 (b' 14), .int .u8 (b' 15), .string (mkB tg), .slice A' d.length c'] 28))
  go_enter Tryz.func20, Tryz.ntmps20
  go_wp2_with (fail)
  refine (stockadehelp_Bytes.calls A c d A' c' d true _ (Kd.C_below HC.out HB.out) hc (Kd.C_below HC'.out HB.out) hc' (by simp [stockadehelp_Bytes.f])).mono ?_
  rintro e w1 ⟨rfl, hd⟩
  have HB1 := Kp.mk (below_step HB.out hd.below)
  clear hd
  go_wp2
  go_ret
  exact ⟨rfl, HB1.out⟩
end Go.Proofs.YtlkneoednkhleaaGreatDoor

namespace Go.Proofs.YtlkneoednkhleaaGreatDoor
open Go.RowKit Go.Proofs.YtlkneoednkhleaaGreatDoorW.PrintWords
set_option linter.unusedVariables false
set_option linter.unusedSimpArgs false
set_option maxRecDepth 100000
set_option maxHeartbeats 1000000

theorem wr_bad (r : Rec) (A : Option Addr) (c : Nat) (w : World) (hE : Env w) (hs : r.name.length < 4294967281) (ht : r.tgt.length < 4294967281) (hd : r.data.length ≤ 9223372036854775807) (hr : r.right = false) :
    Calls Tryz.prog 15 #[.agg (recA r (.slice A r.data.length c))] w (Gives2 bytesK erK [] (.code 1) w) := by
  obtain ⟨rn, rt, rc, rl, ⟨v6, b⟩, rtg, rd⟩ := r
  show Calls Tryz.prog 15 #[.agg #[.string (mkB rn), .int .i64 rt, .int .i64 rc, .int .u32 rl, .bool v6, .int .u8 (b 0), .int .u8 (b 1), .int .u8 (b 2), .int .u8 (b 3), .int .u8 (b 4), .int .u8 (b 5), .int .u8 (b 6), .int .u8 (b 7), .int .u8 (b 8), .int .u8 (b 9), .int .u8 (b 10), .int .u8 (b 11), .int .u8 (b 12), .int .u8 (b 13), .int .u8 (b 14), .int .u8 (b 15), .string (mkB rtg), .slice A rd.length c]] w (Gives2 bytesK erK [] (.code 1) w)
  have HS := Kp.mk ((St.start hE).alloc (.cells #[.string (mkB rn), .int .i64 rt, .int .i64 rc, .int .u32 rl, .bool v6, .int .u8 (b 0), .int .u8 (b 1), .int .u8 (b 2), .int .u8 (b 3), .int .u8 (b 4), .int .u8 (b 5), .int .u8 (b 6), .int .u8 (b 7), .int .u8 (b 8), .int .u8 (b 9), .int .u8 (b 10), .int .u8 (b 11), .int .u8 (b 12), .int .u8 (b 13), .int .u8 (b 14), .int .u8 (b 15), .string (mkB rtg), .slice A rd.length c] 28))
  have Hg := Kp.mk (heap_new w (.cells #[.string (mkB rn), .int .i64 rt, .int .i64 rc, .int .u32 rl, .bool v6, .int .u8 (b 0), .int .u8 (b 1), .int .u8 (b 2), .int .u8 (b 3), .int .u8 (b 4), .int .u8 (b 5), .int .u8 (b 6), .int .u8 (b 7), .int .u8 (b 8), .int .u8 (b 9), .int .u8 (b 10), .int .u8 (b 11), .int .u8 (b 12), .int .u8 (b 13), .int .u8 (b 14), .int .u8 (b 15), .string (mkB rtg), .slice A rd.length c] 28))
  have HR := Kp.mk hr
  clear hE hr
  dsimp only at hs ht hd
  go_enter Tryz.func15, Tryz.ntmps15
  go_wp2_with (with_reducible refine ld_blk rfl 28 (.tmp 1) rfl w.heap.size rfl Hg Tryz.underlying28 rfl (by kernel_rfl) ?_)
  refine b_ (asked_calls ⟨rn, rt, rc, rl, ⟨v6, b⟩, rtg, rd⟩ A rd.length c _) HS ?_
  intro w1 HB1 HS1
  have Hg1 := Kp.mk ((HB1.out.block _ (heap_lt Hg.out)).trans Hg.out)
  by_cases hq : Qu.right ⟨rn, rt, rc⟩ = true
  · have HQ := Kp.mk hq
    clear hq
    go_wp2_with (fail)
    refine g2sn_ (wq_good ⟨rn, rt, rc⟩ _ HS1.out.env hs HQ.out) HS1 ?_
    intro A2 c2 w2 hc2 hcm2 HC2 HM2 HB2 HS2
    have Hg2 := Kp.mk ((HB2.out.block _ (heap_lt Hg1.out)).trans Hg1.out)
    go_wp2_with (with_reducible refine ld_blkG (by kernel_rfl) 28 (.tmp 1) rfl w.heap.size rfl Hg2 Tryz.underlying28 rfl (by kernel_rfl) ?_)
    refine b_ (rightRec_calls ⟨rn, rt, rc, rl, ⟨v6, b⟩, rtg, rd⟩ A c _ HS2.out.env hs ht hd) HS2 ?_
    intro w3 HB3 HS3
    rw [HR.out]
    go_wp2
    go_ret2
    exact ⟨_, _, rfl, ⟨_, rfl, Kd.R_nil _ _ _ _ _⟩, er_code _ _ _ _, HS3.out.below⟩
  · have hq' : Qu.right ⟨rn, rt, rc⟩ = false := by simpa using hq
    have HQ := Kp.mk hq'
    clear hq hq'
    go_wp2_with (fail)
    refine g2_ (wq_bad ⟨rn, rt, rc⟩ _ HS1.out.env hs HQ.out) HS1 ?_
    intro v2 v2e w2 HM2 HE2 HB2 HS2
    obtain rfl := er_open_code (erK.K_of_M HE2.out)
    go_wp2
    go_ret2
    exact ⟨_, _, rfl, ⟨_, rfl, Kd.R_nil _ _ _ _ _⟩, er_code _ _ _ _, HS2.out.below⟩
end Go.Proofs.YtlkneoednkhleaaGreatDoor

namespace Go.Proofs.YtlkneoednkhleaaGreatDoor
open Go.RowKit Go.Proofs.YtlkneoednkhleaaGreatDoorW.PrintWords
set_option linter.unusedVariables false
set_option linter.unusedSimpArgs false
set_option maxRecDepth 100000
set_option maxHeartbeats 1000000

/-- A record's bytes. -/
def Rec.wire (r : Rec) : List Int := Qu.wire ⟨r.name, r.typ, r.cls⟩ ++ be32 r.ttl ++ be16 r.body.length ++ r.body
theorem ad_l_len (a : Ad) : a.l.length = 16 := rfl
theorem body_len (r : Rec) (h : r.right = true) : r.body.length ≤ 1016 := by
  unfold Rec.right at h
  simp only [Bool.and_eq_true, decide_eq_true_eq] at h
  have h1 := nameW_len r.tgt h.2.1
  unfold Rec.body
  split
  · omega
  · rw [List.length_append, List.length_take, ad_l_len]
    omega
theorem ad_C {w : World} {g : Nat} {rn : L} {rt rc rl : Int} {v6 : Bool} {b : Nat → Int} {rtg : L} {v : Value} (h : w.heap[g]? = some (.cells #[.string (mkB rn), .int .i64 rt, .int .i64 rc, .int .u32 rl, .bool v6, .int .u8 (b 0), .int .u8 (b 1), .int .u8 (b 2), .int .u8 (b 3), .int .u8 (b 4), .int .u8 (b 5), .int .u8 (b 6), .int .u8 (b 7), .int .u8 (b 8), .int .u8 (b 9), .int .u8 (b 10), .int .u8 (b 11), .int .u8 (b 12), .int .u8 (b 13), .int .u8 (b 14), .int .u8 (b 15), .string (mkB rtg), v] 28 (0, 0))) (z : Nat) (hz : z ≤ 16) :
    (Kd.int .u8).C w (some ⟨g, 5, none⟩) z ([b 0, b 1, b 2, b 3, b 4, b 5, b 6, b 7, b 8, b 9, b 10, b 11, b 12, b 13, b 14, b 15].take z) := by
  have hl : ([b 0, b 1, b 2, b 3, b 4, b 5, b 6, b 7, b 8, b 9, b 10, b 11, b 12, b 13, b 14, b 15].take z).length = z := by
    rw [List.length_take]
    show min z 16 = z
    omega
  have h2 := C_blk (o := 5) (k := .u8) (xs := [b 0, b 1, b 2, b 3, b 4, b 5, b 6, b 7, b 8, b 9, b 10, b 11, b 12, b 13, b 14, b 15].take z) h (by rw [hl]; omega) (fun j hj => by
    rw [hl] at hj
    have e : ([b 0, b 1, b 2, b 3, b 4, b 5, b 6, b 7, b 8, b 9, b 10, b 11, b 12, b 13, b 14, b 15].take z).getD j 0 = [b 0, b 1, b 2, b 3, b 4, b 5, b 6, b 7, b 8, b 9, b 10, b 11, b 12, b 13, b 14, b 15].getD j 0 := by
      rw [List.getD_eq_getElem?_getD, List.getD_eq_getElem?_getD, List.getElem?_take, if_pos hj]
    rw [e]
    have hj16 : j < 16 := by omega
    match j, hj16 with
    | 0, _ | 1, _ | 2, _ | 3, _ | 4, _ | 5, _ | 6, _ | 7, _ | 8, _ | 9, _ | 10, _ | 11, _ | 12, _ | 13, _ | 14, _ | 15, _ => rfl
    | _ + 16, h => exact absurd h (by omega))
  rw [hl] at h2
  exact h2
theorem data_calls (r : Rec) (A : Option Addr) (c : Nat) (w : World) (hE : Env w) (h : (Kd.int .u8).C w A r.data.length r.data) (hc : r.data.length ≤ c) (hr : r.right = true) (ht : r.tgt.length < 4294967281) :
    Calls Tryz.prog 49 #[.agg (recA r (.slice A r.data.length c))] w (Gives bytesK r.body w) := by
  have hrr := hr
  unfold Rec.right at hrr
  simp only [Bool.and_eq_true, decide_eq_true_eq] at hrr
  obtain ⟨-, htr, hdl, -⟩ := hrr
  obtain ⟨rn, rt, rc, rl, ⟨v6, b⟩, rtg, rd⟩ := r
  dsimp only at htr hdl ht hc h
  have HTR := Kp.mk htr
  have HS := Kp.mk ((St.start hE).alloc (.cells #[.string (mkB rn), .int .i64 rt, .int .i64 rc, .int .u32 rl, .bool v6, .int .u8 (b 0), .int .u8 (b 1), .int .u8 (b 2), .int .u8 (b 3), .int .u8 (b 4), .int .u8 (b 5), .int .u8 (b 6), .int .u8 (b 7), .int .u8 (b 8), .int .u8 (b 9), .int .u8 (b 10), .int .u8 (b 11), .int .u8 (b 12), .int .u8 (b 13), .int .u8 (b 14), .int .u8 (b 15), .string (mkB rtg), .slice A rd.length c] 28))
  have hg := heap_new w (.cells #[.string (mkB rn), .int .i64 rt, .int .i64 rc, .int .u32 rl, .bool v6, .int .u8 (b 0), .int .u8 (b 1), .int .u8 (b 2), .int .u8 (b 3), .int .u8 (b 4), .int .u8 (b 5), .int .u8 (b 6), .int .u8 (b 7), .int .u8 (b 8), .int .u8 (b 9), .int .u8 (b 10), .int .u8 (b 11), .int .u8 (b 12), .int .u8 (b 13), .int .u8 (b 14), .int .u8 (b 15), .string (mkB rtg), .slice A rd.length c] 28)
  have Hg := Kp.mk hg
  have HC := Kp.mk (Kd.C_below h HS.out.below)
  obtain ⟨bd, hbd⟩ : ∃ bd, Rec.body ⟨rn, rt, rc, rl, ⟨v6, b⟩, rtg, rd⟩ = bd := ⟨_, rfl⟩
  have hbe : bd = if rt = 5 then nameW rtg else [b 0, b 1, b 2, b 3, b 4, b 5, b 6, b 7, b 8, b 9, b 10, b 11, b 12, b 13, b 14, b 15].take (szT rt).toNat ++ rd := hbd.symm
  rw [hbd]
  show Calls Tryz.prog 49 #[.agg #[.string (mkB rn), .int .i64 rt, .int .i64 rc, .int .u32 rl, .bool v6, .int .u8 (b 0), .int .u8 (b 1), .int .u8 (b 2), .int .u8 (b 3), .int .u8 (b 4), .int .u8 (b 5), .int .u8 (b 6), .int .u8 (b 7), .int .u8 (b 8), .int .u8 (b 9), .int .u8 (b 10), .int .u8 (b 11), .int .u8 (b 12), .int .u8 (b 13), .int .u8 (b 14), .int .u8 (b 15), .string (mkB rtg), .slice A rd.length c]] w (Gives bytesK bd w)
  have HBE := Kp.mk hbe
  clear hE h hr htr hbd hbe
  by_cases h5 : rt = 5
  · subst h5
    have hb := HBE.out
    rw [if_pos rfl] at hb
    subst hb
    clear hg
    go_enter Tryz.func49, Tryz.ntmps49
    go_wp2_with (fail)
    refine g2sn_ (writeB_good rtg _ HS.out.env ht HTR.out) HS ?_
    intro A1 c1 w1 hc1 hcm1 HC1 HM1 HB1 HS1
    go_wp2
    go_ret
    exact ⟨_, rfl, (by obtain ⟨v', hv, hR⟩ := HM1.out; exact ⟨v', hv, Kd.R_lower hR (by simp)⟩), HS1.out.below⟩
  · have b5 : (rt == 5) = false := by simpa using h5
    have hb := HBE.out
    rw [if_neg h5] at hb
    have hz : szT rt = 0 ∨ szT rt = 4 ∨ szT rt = 16 := by unfold szT; split; exact .inr (.inr rfl); split; exact .inr (.inl rfl); exact .inl rfl
    obtain ⟨z, hzz⟩ : ∃ z : Nat, szT rt = (z : Int) ∧ z ≤ 16 := by
      rcases hz with h | h | h
      · exact ⟨0, h, by decide⟩
      · exact ⟨4, h, by decide⟩
      · exact ⟨16, h, by decide⟩
    obtain ⟨hz1, hz2⟩ := hzz
    rw [hz1, Int.toNat_natCast] at hb
    have HCA := Kp.mk (ad_C hg z hz2)
    obtain ⟨ys, hys⟩ : ∃ ys, [b 0, b 1, b 2, b 3, b 4, b 5, b 6, b 7, b 8, b 9, b 10, b 11, b 12, b 13, b 14, b 15].take z = ys := ⟨_, rfl⟩
    have hyl : ys.length = z := by rw [← hys, List.length_take]; show min z 16 = z; omega
    rw [hys] at HCA hb
    have HSZ : Kp (∀ W, Calls Tryz.prog 84 #[.int .i64 rt] W fun e w' => e = .returned (.int .i64 (z : Int)) ∧ W = w') := ⟨fun W => hz1 ▸ sz_calls rt W⟩
    subst hyl
    have hrows := lit_rows (w := w.alloc (.cells #[.string (mkB rn), .int .i64 rt, .int .i64 rc, .int .u32 rl, .bool v6, .int .u8 (b 0), .int .u8 (b 1), .int .u8 (b 2), .int .u8 (b 3), .int .u8 (b 4), .int .u8 (b 5), .int .u8 (b 6), .int .u8 (b 7), .int .u8 (b 8), .int .u8 (b 9), .int .u8 (b 10), .int .u8 (b 11), .int .u8 (b 12), .int .u8 (b 13), .int .u8 (b 14), .int .u8 (b 15), .string (mkB rtg), .slice A rd.length c] 28)) (T := 22) [.slice (some ⟨w.heap.size, 5, none⟩) ys.length 16, .slice A rd.length c] [ys, rd] rfl (by show 2 ≤ 9223372036854775807; decide) (fun j hj => by
      have hj' : j < 2 := hj
      match j, hj' with
      | 0, _ => exact ⟨_, 16, rfl, hz2, HCA.out⟩
      | 1, _ => exact ⟨A, c, rfl, hc, HC.out⟩)
    have hz8 : (w.alloc (.cells #[.string (mkB rn), .int .i64 rt, .int .i64 rc, .int .u32 rl, .bool v6, .int .u8 (b 0), .int .u8 (b 1), .int .u8 (b 2), .int .u8 (b 3), .int .u8 (b 4), .int .u8 (b 5), .int .u8 (b 6), .int .u8 (b 7), .int .u8 (b 8), .int .u8 (b 9), .int .u8 (b 10), .int .u8 (b 11), .int .u8 (b 12), .int .u8 (b 13), .int .u8 (b 14), .int .u8 (b 15), .string (mkB rtg), .slice A rd.length c] 28)).heap.size = w.heap.size + 1 := by simp
    rw [hz8] at hrows
    have hfl : [ys, rd].flatten = ys ++ rd := by simp
    have hcat := concatB_calls _ 2 [ys, rd] _ (Kd.C_below hrows (below_drew (Below.refl _ _))) (by rw [hfl, List.length_append]; omega)
    rw [hfl] at hcat
    have HCAT := Kp.mk hcat
    have HSd2 := Kp.mk ((HS.out.alloc (.cells #[.slice (some ⟨w.heap.size, 5, none⟩) ys.length 16, .slice A rd.length c] 22)).step (below_drew (Below.refl _ _)))
    have F1 := Kp.mk (show (((w.alloc (.cells #[.string (mkB rn), .int .i64 rt, .int .i64 rc, .int .u32 rl, .bool v6, .int .u8 (b 0), .int .u8 (b 1), .int .u8 (b 2), .int .u8 (b 3), .int .u8 (b 4), .int .u8 (b 5), .int .u8 (b 6), .int .u8 (b 7), .int .u8 (b 8), .int .u8 (b 9), .int .u8 (b 10), .int .u8 (b 11), .int .u8 (b 12), .int .u8 (b 13), .int .u8 (b 14), .int .u8 (b 15), .string (mkB rtg), .slice A rd.length c] 28)).alloc (.cells #[.slice (some ⟨w.heap.size, 5, none⟩) ys.length 16, .slice A rd.length c] 22)).drew).cell? ⟨w.heap.size, 1, none⟩ = some (.int .i64 rt) from (World.cell?_alloc_lt _ _ ⟨w.heap.size, 1, none⟩ (by simp)).trans (blk_cell hg 1))
    have F22 := Kp.mk (show (((w.alloc (.cells #[.string (mkB rn), .int .i64 rt, .int .i64 rc, .int .u32 rl, .bool v6, .int .u8 (b 0), .int .u8 (b 1), .int .u8 (b 2), .int .u8 (b 3), .int .u8 (b 4), .int .u8 (b 5), .int .u8 (b 6), .int .u8 (b 7), .int .u8 (b 8), .int .u8 (b 9), .int .u8 (b 10), .int .u8 (b 11), .int .u8 (b 12), .int .u8 (b 13), .int .u8 (b 14), .int .u8 (b 15), .string (mkB rtg), .slice A rd.length c] 28)).alloc (.cells #[.slice (some ⟨w.heap.size, 5, none⟩) ys.length 16, .slice A rd.length c] 22)).drew).cell? ⟨w.heap.size, 22, none⟩ = some (.slice A rd.length c) from (World.cell?_alloc_lt _ _ ⟨w.heap.size, 22, none⟩ (by simp)).trans (blk_cell hg 22))
    have HB := Kp.mk hb
    clear hrows hz8 hfl hcat
    have t1 : _ = some (Value.int .i64 rt) := blk_cell hg 1
    have t22 : _ = some (Value.slice A rd.length c) := blk_cell hg 22
    have z0 : (0 : Int) ≤ (ys.length : Int) := by omega
    have z1 : (ys.length : Int) ≤ 16 := by omega
    clear hg hz hz1 hys hb HBE
    go_enter Tryz.func49, Tryz.ntmps49
    go_wp2_with (fail)
    go_region_held3 (fun w' => w'.cell? ⟨w.heap.size, 1, none⟩ = some (.int .i64 rt) ∧ w'.cell? ⟨w.heap.size, 22, none⟩ = some (.slice A rd.length c)) (first | go_keep | exact ⟨F1.out, F22.out⟩ | exact ⟨pw_cell_below HB9.out F1.out, pw_cell_below HB9.out F22.out⟩)
      (first
        | (go_at_call 84; (with_reducible refine (HSZ.out _).mono ?_); rintro e3 w3 ⟨rfl, rfl⟩)
        | (go_at_call 50; (with_reducible refine gs_ HCAT.out HSd2 ?_); intro A9 c9 w9 hc9 hcm9 HC9 HM9 HB9 HS9))
    go_wp2
    go_ret
    have h9 := HM9.out
    rw [List.length_append] at h9
    exact ⟨_, rfl, (by rw [HB.out]; obtain ⟨v', hv, hR⟩ := h9; exact ⟨v', hv, Kd.R_lower hR (by have := HSd2.out.size; exact this)⟩), HS9.out.below⟩
end Go.Proofs.YtlkneoednkhleaaGreatDoor

namespace Go.Proofs.YtlkneoednkhleaaGreatDoor
open Go.RowKit Go.Proofs.YtlkneoednkhleaaGreatDoorW.PrintWords
set_option linter.unusedVariables false
set_option linter.unusedSimpArgs false
set_option maxRecDepth 100000
set_option maxHeartbeats 2000000

theorem wr_good (r : Rec) (A : Option Addr) (c : Nat) (w : World) (hE : Env w) (h : (Kd.int .u8).C w A r.data.length r.data) (hc : r.data.length ≤ c) (hr : r.right = true) (hs : r.name.length < 4294967281) (ht : r.tgt.length < 4294967281) (hl0 : 0 ≤ r.ttl) (hl1 : r.ttl ≤ 4294967295) :
    Calls Tryz.prog 15 #[.agg (recA r (.slice A r.data.length c))] w (Gives2 bytesK erK r.wire .none w) := by
  have hbl := body_len r hr
  have hq : Qu.right ⟨r.name, r.typ, r.cls⟩ = true := by
    have hrr := hr
    unfold Rec.right at hrr
    simp only [Bool.and_eq_true] at hrr
    exact hrr.1
  have hd : r.data.length ≤ 1000 := by
    have hrr := hr
    unfold Rec.right at hrr
    simp only [Bool.and_eq_true, decide_eq_true_eq] at hrr
    exact hrr.2.2.1
  have hql : (Qu.wire ⟨r.name, r.typ, r.cls⟩).length ≤ 260 := by
    have := nameW_len r.name (Qu.right_mk hq).1
    unfold Qu.wire
    simp only [List.length_append]
    show (nameW r.name).length + 2 + 2 ≤ 260
    omega
  obtain ⟨rn, rt, rc, rl, ⟨v6, b⟩, rtg, rd⟩ := r
  have hw : Rec.wire ⟨rn, rt, rc, rl, ⟨v6, b⟩, rtg, rd⟩ = Qu.wire ⟨rn, rt, rc⟩ ++ be32 rl ++ be16 (Rec.body ⟨rn, rt, rc, rl, ⟨v6, b⟩, rtg, rd⟩).length ++ Rec.body ⟨rn, rt, rc, rl, ⟨v6, b⟩, rtg, rd⟩ := rfl
  rw [hw]
  dsimp only at hs ht hd hq hql hl0 hl1 h hc
  obtain ⟨bd, hbd⟩ : ∃ bd, Rec.body ⟨rn, rt, rc, rl, ⟨v6, b⟩, rtg, rd⟩ = bd := ⟨_, rfl⟩
  obtain ⟨qs, hqs⟩ : ∃ qs, Qu.wire ⟨rn, rt, rc⟩ = qs := ⟨_, rfl⟩
  rw [hbd] at hbl ⊢
  rw [hqs] at hql ⊢
  obtain ⟨wr, hwr⟩ : ∃ wr, qs ++ be32 rl ++ be16 bd.length ++ bd = wr := ⟨_, rfl⟩
  rw [hwr]
  have HWR := Kp.mk hwr
  show Calls Tryz.prog 15 #[.agg #[.string (mkB rn), .int .i64 rt, .int .i64 rc, .int .u32 rl, .bool v6, .int .u8 (b 0), .int .u8 (b 1), .int .u8 (b 2), .int .u8 (b 3), .int .u8 (b 4), .int .u8 (b 5), .int .u8 (b 6), .int .u8 (b 7), .int .u8 (b 8), .int .u8 (b 9), .int .u8 (b 10), .int .u8 (b 11), .int .u8 (b 12), .int .u8 (b 13), .int .u8 (b 14), .int .u8 (b 15), .string (mkB rtg), .slice A rd.length c]] w (Gives2 bytesK erK wr .none w)
  have HS := Kp.mk ((St.start hE).alloc (.cells #[.string (mkB rn), .int .i64 rt, .int .i64 rc, .int .u32 rl, .bool v6, .int .u8 (b 0), .int .u8 (b 1), .int .u8 (b 2), .int .u8 (b 3), .int .u8 (b 4), .int .u8 (b 5), .int .u8 (b 6), .int .u8 (b 7), .int .u8 (b 8), .int .u8 (b 9), .int .u8 (b 10), .int .u8 (b 11), .int .u8 (b 12), .int .u8 (b 13), .int .u8 (b 14), .int .u8 (b 15), .string (mkB rtg), .slice A rd.length c] 28))
  have Hg := Kp.mk (heap_new w (.cells #[.string (mkB rn), .int .i64 rt, .int .i64 rc, .int .u32 rl, .bool v6, .int .u8 (b 0), .int .u8 (b 1), .int .u8 (b 2), .int .u8 (b 3), .int .u8 (b 4), .int .u8 (b 5), .int .u8 (b 6), .int .u8 (b 7), .int .u8 (b 8), .int .u8 (b 9), .int .u8 (b 10), .int .u8 (b 11), .int .u8 (b 12), .int .u8 (b 13), .int .u8 (b 14), .int .u8 (b 15), .string (mkB rtg), .slice A rd.length c] 28))
  have HC := Kp.mk (Kd.C_below h HS.out.below)
  have HR := Kp.mk hr
  have HQ := Kp.mk hq
  have HBD := Kp.mk hbd
  have HQS := Kp.mk hqs
  clear hE h hr hq hbd hqs hw hwr
  go_enter Tryz.func15, Tryz.ntmps15
  go_wp2_with (with_reducible refine ld_blk rfl 28 (.tmp 1) rfl w.heap.size rfl Hg Tryz.underlying28 rfl (by kernel_rfl) ?_)
  refine b_ (asked_calls ⟨rn, rt, rc, rl, ⟨v6, b⟩, rtg, rd⟩ A rd.length c _) HS ?_
  intro w1 HB1 HS1
  have Hg1 := Kp.mk ((HB1.out.block _ (heap_lt Hg.out)).trans Hg.out)
  go_wp2_with (fail)
  refine g2sn_ (HQS.out ▸ wq_good ⟨rn, rt, rc⟩ _ HS1.out.env hs HQ.out) HS1 ?_
  intro A2 c2 w2 hc2 hcm2 HC2 HM2 HB2 HS2
  have Hg2 := Kp.mk ((HB2.out.block _ (heap_lt Hg1.out)).trans Hg1.out)
  go_wp2_with (with_reducible refine ld_blkG (by kernel_rfl) 28 (.tmp 1) rfl w.heap.size rfl Hg2 Tryz.underlying28 rfl (by kernel_rfl) ?_)
  refine b_ (rightRec_calls ⟨rn, rt, rc, rl, ⟨v6, b⟩, rtg, rd⟩ A c _ HS2.out.env hs ht (by show rd.length ≤ _; omega)) HS2 ?_
  intro w3 HB3 HS3
  rw [HR.out]
  have Hg3 := Kp.mk ((HB3.out.block _ (heap_lt Hg2.out)).trans Hg2.out)
  have HC2a := Kp.mk (Kd.C_below HC2.out HB3.out)
  go_wp2_with (with_reducible refine ld_blk rfl 28 (.tmp 1) rfl w.heap.size rfl Hg3 Tryz.underlying28 rfl (by kernel_rfl) ?_)
  have HCr := Kp.mk (Kd.C_below HC.out (below_step HB1.out (below_step HB2.out HB3.out)))
  refine gs_ (HBD.out ▸ data_calls ⟨rn, rt, rc, rl, ⟨v6, b⟩, rtg, rd⟩ A c _ HS3.out.env HCr.out hc HR.out ht) HS3 ?_
  intro A4 c4 w4 hc4 hcm4 HC4 HM4 HB4 HS4
  have Hg4 := Kp.mk ((HB4.out.block _ (heap_lt Hg3.out)).trans Hg3.out)
  have HC2b := Kp.mk (Kd.C_below HC2a.out HB4.out)
  obtain ⟨ys, hys⟩ : ∃ ys, qs ++ be32 rl = ys := ⟨_, rfl⟩
  have hyl : ys.length ≤ 264 := by rw [← hys, List.length_append]; show qs.length + 4 ≤ 264; omega
  obtain ⟨zs, hzs⟩ : ∃ zs, ys ++ be16 bd.length = zs := ⟨_, rfl⟩
  have hzl : zs.length ≤ 266 := by rw [← hzs, List.length_append]; show ys.length + 2 ≤ 266; omega
  have H1 : Kp (∀ W, (Kd.int .u8).C W A2 qs.length qs → Calls Tryz.prog 52 #[.slice A2 qs.length c2, .int .u32 rl] W (Gives (Kd.slice 5 (Kd.int .u8)) ys W)) := ⟨fun W h => hys ▸ put32_calls A2 qs.length c2 qs rl W h hc2 (by omega) hl0 hl1⟩
  have H2 : Kp (∀ W A c, (Kd.int .u8).C W A ys.length ys → ys.length ≤ c → Calls Tryz.prog 51 #[.slice A ys.length c, .int .i64 (bd.length : Int)] W (Gives (Kd.slice 5 (Kd.int .u8)) zs W)) := ⟨fun W A c h hc => hzs ▸ put16_calls A ys.length c ys bd.length W h hc (by omega) (by omega) (by omega)⟩
  have H3 : Kp (∀ W A3 c3, (Kd.int .u8).C W A3 zs.length zs → zs.length ≤ c3 → (Kd.int .u8).C W A4 bd.length bd → Calls Tryz.prog 50 #[.slice (some ⟨W.heap.size, 0, none⟩) 2 2] (W.alloc (.cells #[.slice A3 zs.length c3, .slice A4 bd.length c4] 22)) (Gives (Kd.slice 5 (Kd.int .u8)) (zs ++ bd) (W.alloc (.cells #[.slice A3 zs.length c3, .slice A4 bd.length c4] 22)))) := ⟨fun W A3 c3 h hc h4 => by
    have hrows := lit_rows (w := W) (T := 22) [.slice A3 zs.length c3, .slice A4 bd.length c4] [zs, bd] rfl (by show 2 ≤ 9223372036854775807; decide) (fun j hj => by
      have hj' : j < 2 := hj
      match j, hj' with
      | 0, _ => exact ⟨A3, c3, rfl, hc, h⟩
      | 1, _ => exact ⟨A4, c4, rfl, hc4, h4⟩)
    have hfl : [zs, bd].flatten = zs ++ bd := by simp
    have hcat := concatB_calls _ 2 [zs, bd] _ hrows (by rw [hfl, List.length_append]; omega)
    rw [hfl] at hcat
    exact hcat⟩
  have HY := Kp.mk hys
  have HZ := Kp.mk hzs
  clear HC2 HM2 hys hzs
  have f3 := blk_cell Hg4.out 3
  go_wp2_with (fail)
  refine gs_ (H1.out _ HC2b.out) HS4 ?_
  intro A5 c5 w5 hc5 hcm5 HC5 HM5 HB5 HS5
  go_wp2_with (fail)
  refine gs_ (H2.out _ _ _ HC5.out hc5) HS5 ?_
  intro A6 c6 w6 hc6 hcm6 HC6 HM6 HB6 HS6
  have HC4c := Kp.mk (Kd.C_below (Kd.C_below HC4.out HB5.out) HB6.out)
  have HSa := Kp.mk (HS6.out.alloc (.cells #[.slice A6 zs.length c6, .slice A4 bd.length c4] 22))
  go_wp2_with (fail)
  refine gs_ (H3.out _ _ _ HC6.out hc6 HC4c.out) HSa ?_
  intro A7 c7 w7 hc7 hcm7 HC7 HM7 HB7 HS7
  go_wp2
  go_ret2
  have h7 := HM7.out
  rw [List.length_append] at h7
  exact ⟨_, _, rfl, (by rw [← HWR.out, HY.out, HZ.out]; obtain ⟨v', hv, hR⟩ := h7; exact ⟨v', hv, Kd.R_lower hR HSa.out.size⟩), er_none _ _ _, HS7.out.below⟩
end Go.Proofs.YtlkneoednkhleaaGreatDoor

namespace Go.Proofs.YtlkneoednkhleaaGreatDoor
open Go.RowKit Go.Proofs.YtlkneoednkhleaaGreatDoorW.PrintWords
set_option linter.unusedVariables false
set_option linter.unusedSimpArgs false
set_option maxRecDepth 100000
set_option maxHeartbeats 1000000

/-- A record as it is read. -/
def Rec.norm (r : Rec) : Rec := { r with ad := if szT r.typ = 0 then Ad.zero else adOf r.typ (r.ad.l.take (szT r.typ).toNat) }
structure Rec.Parts (r : Rec) : Prop where
  q : Qu.right ⟨r.name, r.typ, r.cls⟩ = true
  t : rightL r.tgt = true
  d : r.data.length ≤ 1000
  form : (szT r.typ ≠ 0 ∧ r.typ ≠ 5 ∧ r.tgt = [] ∧ r.data = [] ∧ r.ad.right = true ∧ r.ad.v6 = decide (r.typ = 28)) ∨ (szT r.typ = 0 ∧ r.typ = 5 ∧ r.ad.plain = true ∧ r.data = []) ∨ (szT r.typ = 0 ∧ r.typ ≠ 5 ∧ r.ad.plain = true ∧ r.tgt = [])
theorem Rec.parts {r : Rec} (h : r.right = true) : r.Parts := by
  unfold Rec.right at h
  simp only [Bool.and_eq_true, decide_eq_true_eq] at h
  obtain ⟨h1, h2, h3, h4⟩ := h
  refine ⟨h1, h2, h3, ?_⟩
  unfold Rec.tail at h4
  by_cases t1 : r.typ = 1 ∨ r.typ = 28
  · rw [if_pos t1] at h4
    simp only [Bool.and_eq_true, decide_eq_true_eq, beq_iff_eq] at h4
    obtain ⟨e1, e2, e3, e4⟩ := h4
    refine .inl ⟨?_, by omega, by simpa using e1, List.length_eq_zero_iff.1 e2, e3, e4⟩
    unfold szT
    rcases t1 with t | t <;> rw [t] <;> decide
  · rw [if_neg t1] at h4
    have hz : szT r.typ = 0 := by unfold szT; rw [if_neg (by omega), if_neg (by omega)]
    by_cases t5 : r.typ = 5
    · rw [if_pos t5] at h4
      simp only [Bool.and_eq_true, decide_eq_true_eq] at h4
      exact .inr (.inl ⟨hz, t5, h4.1, List.length_eq_zero_iff.1 h4.2⟩)
    · rw [if_neg t5] at h4
      simp only [Bool.and_eq_true] at h4
      exact .inr (.inr ⟨hz, t5, h4.1, by simpa using h4.2⟩)
theorem szT_cases (t : Int) : (t = 28 ∧ szT t = 16) ∨ (t = 1 ∧ szT t = 4) ∨ szT t = 0 := by
  unfold szT
  by_cases h : t = 28
  · exact .inl ⟨h, if_pos h⟩
  · by_cases h1 : t = 1
    · exact .inr (.inl ⟨h1, by rw [if_neg h, if_pos h1]⟩)
    · exact .inr (.inr (by rw [if_neg h, if_neg h1]))
theorem wire_q_len (q : Qu) : q.wire.length = (nameW q.name).length + 4 := by
  unfold Qu.wire
  simp only [List.length_append]
  rfl
theorem wire_len_rec (r : Rec) : r.wire.length = (Qu.wire ⟨r.name, r.typ, r.cls⟩).length + 6 + r.body.length := by
  unfold Rec.wire
  simp only [List.length_append]
  show (Qu.wire ⟨r.name, r.typ, r.cls⟩).length + 4 + 2 + r.body.length = _
  omega
/-- What is written is read. -/
theorem back_rec (r : Rec) (h : r.right = true) {xs : List Int} {a : Int} {rest : List Int} (ha : 0 ≤ a) (hd : xs.drop a.toNat = r.wire ++ rest) : recR xs a = (r.norm, a + r.wire.length, .none) := by
  have hp := Rec.parts h
  have hbl := body_len r h
  have hd0 : xs.drop a.toNat = Qu.wire ⟨r.name, r.typ, r.cls⟩ ++ (be32 r.ttl ++ (be16 r.body.length ++ (r.body ++ rest))) := by rw [hd]; simp [Rec.wire]
  obtain ⟨r1, r2⟩ := recR_head ⟨r.name, r.typ, r.cls⟩ hp.q r.ttl ha hd0
  dsimp only at r1
  have hm : ((r.body.length : Nat) : Int) ≤ (r.body ++ rest).length := by rw [List.length_append]; omega
  have h3 := fillR_eq (m := r.body.length) ⟨r.name, r.typ, r.cls, r.ttl, Ad.zero, [], []⟩ (by omega) r2 (by omega) hm
  obtain ⟨-, -, h4, -, -⟩ := fillR_head (m := r.body.length) ⟨r.name, r.typ, r.cls, r.ttl, Ad.zero, [], []⟩ (by omega) r2 (by omega) hm
  dsimp only at h3
  have htk : (r.body ++ rest).take ((r.body.length : Nat) : Int).toNat = r.body := by rw [Int.toNat_natCast, List.take_left' rfl]
  rw [htk] at h3
  have hend : a + ((Qu.wire ⟨r.name, r.typ, r.cls⟩).length : Int) + 4 + 2 + (r.body.length : Int) = a + (r.wire.length : Int) := by rw [wire_len_rec]; omega
  have hfin : fillR xs (a + ((Qu.wire ⟨r.name, r.typ, r.cls⟩).length : Int) + 4) ⟨r.name, r.typ, r.cls, r.ttl, Ad.zero, [], []⟩ = (r.norm, a + r.wire.length, .none) := by
    rw [h3]
    rcases hp.form with ⟨hz, h5, ht, hda, -, -⟩ | ⟨hz, h5, -, hda⟩ | ⟨hz, h5, -, ht⟩
    · have hb : r.body = r.ad.l.take (szT r.typ).toNat := by unfold Rec.body; rw [if_neg h5, hda, List.append_nil]
      have hbl2 : szT r.typ = (r.body.length : Int) := by
        rw [hb, List.length_take, ad_l_len]
        rcases szT_cases r.typ with h | h | h
        · rw [h.2]; rfl
        · rw [h.2]; rfl
        · exact absurd h hz
      rw [if_neg h5, if_neg hz, if_neg (by simp [hbl2]), hend]
      unfold Rec.norm
      rw [if_neg hz, ← hb, ht, hda]
    · have hb : r.body = nameW r.tgt := by unfold Rec.body; rw [if_pos h5]
      rw [hb] at h4
      have h6 := readN_drop r.tgt hp.t (by omega) h4
      rw [h6, ← hb]
      dsimp only
      rw [if_pos h5, if_neg (by simp), if_neg (by simp), hend]
      unfold Rec.norm
      rw [if_pos hz, hda]
    · have hb : r.body = r.data := by unfold Rec.body; rw [if_neg h5, hz]; rfl
      rw [if_neg h5, if_pos hz, hend]
      unfold Rec.norm
      rw [if_pos hz, ht, hb]
  rw [r1, hfin]
  rfl
theorem eq16_of {xs ys : List Int} (h : xs = ys) : eq16 xs ys = true := by rw [h]; exact eq16_self _
theorem plain_mk {a : Ad} (h : a.plain = true) : a.v6 = false ∧ a.l = [(fun _ => (0 : Int)) 0, (fun _ => (0 : Int)) 1, (fun _ => (0 : Int)) 2, (fun _ => (0 : Int)) 3, (fun _ => (0 : Int)) 4, (fun _ => (0 : Int)) 5, (fun _ => (0 : Int)) 6, (fun _ => (0 : Int)) 7, (fun _ => (0 : Int)) 8, (fun _ => (0 : Int)) 9, (fun _ => (0 : Int)) 10, (fun _ => (0 : Int)) 11, (fun _ => (0 : Int)) 12, (fun _ => (0 : Int)) 13, (fun _ => (0 : Int)) 14, (fun _ => (0 : Int)) 15] := by
  unfold Ad.plain at h
  simp only [Bool.and_eq_true, beq_iff_eq] at h
  refine ⟨h.1, ?_⟩
  have := h.2
  unfold eq16 at this
  exact eq_of_beq this
/-- .. the same record. -/
theorem norm_ad (r : Rec) (h : r.right = true) : r.norm.ad.v6 = r.ad.v6 ∧ r.norm.ad.l = r.ad.l := by
  have hp := Rec.parts h
  rcases hp.form with ⟨hz, h5, ht, hda, har, hv⟩ | ⟨hz, h5, hpl, hda⟩ | ⟨hz, h5, hpl, ht⟩
  · unfold Rec.norm
    dsimp only
    rw [if_neg hz]
    rcases szT_cases r.typ with ⟨h1, h2⟩ | ⟨h1, h2⟩ | h2
    · refine ⟨by rw [hv]; rfl, ?_⟩
      rw [h2, h1]
      rfl
    · have hv0 : r.ad.v6 = false := by rw [hv, h1]; rfl
      refine ⟨by rw [hv]; rfl, ?_⟩
      unfold Ad.right at har
      rw [hv0, Bool.false_or] at har
      have hall : ∀ x ∈ r.ad.l.drop 4, x = 0 := by
        intro x hx
        have h6 : ((r.ad.l.drop 4).any nzB) = false := by simpa using har
        have := List.any_eq_false.1 h6 x hx
        unfold nzB at this
        simpa using this
      have hr : r.ad.l.drop 4 = List.replicate 12 0 := List.eq_replicate_of_mem (a := (0 : Int)) hall
      have hsp : r.ad.l = r.ad.l.take 4 ++ List.replicate 12 0 := by rw [← hr, List.take_append_drop]
      conv => rhs; rw [hsp]
      rw [h2, h1]
      rfl
    · exact absurd h2 hz
  · obtain ⟨h1, h2⟩ := plain_mk hpl
    unfold Rec.norm
    dsimp only
    rw [if_pos hz, h1, h2]
    exact ⟨rfl, rfl⟩
  · obtain ⟨h1, h2⟩ := plain_mk hpl
    unfold Rec.norm
    dsimp only
    rw [if_pos hz, h1, h2]
    exact ⟨rfl, rfl⟩
/-- A name that is cut. -/
theorem readN_cut (s : L) (hr : rightL s = true) {xs : List Int} {a k : Nat} (hk : k < (nameW s).length) (hd : xs.drop a = (nameW s).take k) (hl : xs.length = a + k) : ∃ x, readN xs (a : Int) = ([], 0, .fault x 3) := by
  obtain ⟨hs, hlb⟩ := right_labels s hr
  have hn := labels_len _ hlb
  have hk' : k ≤ (wireOf (labelsOf s)).length := by
    unfold nameW at hk
    rw [List.length_append, List.length_singleton] at hk
    omega
  have hd' : xs.drop a = (wireOf (labelsOf s)).take (a + k - a) := by
    rw [hd, Nat.add_sub_cancel_left]
    unfold nameW
    rw [List.take_append_of_le_length hk']
  have h := read_cut (labelsOf s) [] ((a : Int).toNat * 300 + 300 - (labelsOf s).length) xs (a + k) a (a : Int) (-1) hl (by omega) hd' hlb hs
  rw [show (a : Int).toNat * 300 + 300 - (labelsOf s).length + (labelsOf s).length + 1 = (a : Int).toNat * 300 + 301 by omega] at h
  refine ⟨((cutAt (labelsOf s) (a + k) a : Nat) : Int), ?_⟩
  unfold readN
  rw [if_neg (by omega), h]
theorem take_app_ge {α : Type} (x y : List α) (k : Nat) (h : x.length ≤ k) : (x ++ y).take k = x ++ y.take (k - x.length) := by
  rw [List.take_append, List.take_of_length_le h]
/-- A question that is cut. -/
theorem quR_cut (q : Qu) (hq : q.right = true) {xs : List Int} {a k : Nat} {R : List Int} (hk : k < q.wire.length) (hd : xs.drop a = (q.wire ++ R).take k) (hl : xs.length = a + k) : ∃ er, quR xs (a : Int) = (Qu.zero, 0, er) ∧ er.num = 3 := by
  obtain ⟨hn, ht, hc⟩ := Qu.right_mk hq
  have hwl := wire_q_len q
  by_cases c1 : k < (nameW q.name).length
  · have hd' : xs.drop a = (nameW q.name).take k := by
      rw [hd]
      unfold Qu.wire
      rw [List.append_assoc, List.append_assoc, List.take_append_of_le_length (by omega)]
    obtain ⟨x, hx⟩ := readN_cut q.name hn c1 hd' hl
    refine ⟨.fault x 3, ?_, rfl⟩
    unfold quR
    rw [hx]
    dsimp only
    rw [if_pos (by simp)]
  · have hd' : xs.drop (a : Int).toNat = nameW q.name ++ ((be16 q.typ ++ (be16 q.cls ++ R)).take (k - (nameW q.name).length)) := by
      rw [Int.toNat_natCast, hd, ← take_app_ge _ _ _ (by omega)]
      unfold Qu.wire
      simp
    have hx := readN_drop q.name hn (by omega) hd'
    unfold quR
    rw [hx]
    dsimp only
    rw [if_neg (by simp)]
    by_cases c2 : k < (nameW q.name).length + 2
    · have he := partE_short (len := xs.length) (a := (a : Int) + (nameW q.name).length) (n := 2) (by omega) (by omega) (by omega)
      rw [he, if_pos (by simp)]
      exact ⟨_, rfl, rfl⟩
    · have he := partE_ok (len := xs.length) (a := (a : Int) + (nameW q.name).length) (n := 2) (by omega) (by omega) (by omega)
      have he2 := partE_short (len := xs.length) (a := (a : Int) + (nameW q.name).length + 2) (n := 2) (by omega) (by omega) (by omega)
      rw [he, if_neg (by simp), he2, if_pos (by simp)]
      exact ⟨_, rfl, rfl⟩
/-- A record that is cut. -/
theorem recR_cut (r : Rec) (h : r.right = true) {xs : List Int} {a k : Nat} {R : List Int} (hk : k < r.wire.length) (hd : xs.drop a = (r.wire ++ R).take k) (hl : xs.length = a + k) : ∃ er, recR xs (a : Int) = (Rec.zero, 0, er) ∧ er.num = 3 := by
  have hp := Rec.parts h
  have hwl := wire_len_rec r
  have hassoc : r.wire ++ R = Qu.wire ⟨r.name, r.typ, r.cls⟩ ++ (be32 r.ttl ++ (be16 r.body.length ++ (r.body ++ R))) := by simp [Rec.wire]
  rw [hassoc] at hd
  obtain ⟨q, hqe⟩ : ∃ q : Qu, q = ⟨r.name, r.typ, r.cls⟩ := ⟨_, rfl⟩
  have hq : q.right = true := by rw [hqe]; exact hp.q
  rw [← hqe] at hd hwl
  by_cases c1 : k < q.wire.length
  · obtain ⟨er, he, hn⟩ := quR_cut q hq c1 hd hl
    refine ⟨er, ?_, hn⟩
    have hne : er ≠ .none := by intro h; rw [h] at hn; exact absurd hn (by decide)
    unfold recR
    rw [he]
    dsimp only
    rw [if_pos hne]
  · have hd1 : xs.drop (a : Int).toNat = q.wire ++ ((be32 r.ttl ++ (be16 r.body.length ++ (r.body ++ R))).take (k - q.wire.length)) := by
      rw [Int.toNat_natCast, hd, take_app_ge _ _ _ (by omega)]
    have hx := quR_drop q hq (by omega) hd1
    by_cases c2 : k < q.wire.length + 4
    · have he := partE_short (len := xs.length) (a := (a : Int) + q.wire.length) (n := 4) (by omega) (by omega) (by omega)
      unfold recR
      rw [hx]
      dsimp only
      rw [if_neg (by simp), he, if_pos (by simp)]
      exact ⟨_, rfl, rfl⟩
    · have hd2 : xs.drop (a : Int).toNat = q.wire ++ (be32 r.ttl ++ ((be16 r.body.length ++ (r.body ++ R)).take (k - q.wire.length - 4))) := by
        rw [hd1, take_app_ge (be32 r.ttl) _ _ (by show 4 ≤ _; omega)]
        rfl
      obtain ⟨h1, h2⟩ := recR_head q hq r.ttl (by omega) hd2
      by_cases c3 : k < q.wire.length + 6
      · have he := partE_short (len := xs.length) (a := (a : Int) + q.wire.length + 4) (n := 2) (by omega) (by omega) (by omega)
        have hf : (fillR xs ((a : Int) + q.wire.length + 4) ⟨q.name, q.typ, q.cls, r.ttl, Ad.zero, [], []⟩).2.2 = .fault ((a : Int) + q.wire.length + 4) 3 := by
          unfold fillR
          rw [he, if_pos (by simp)]
        rw [h1, hf, if_pos (by simp)]
        exact ⟨_, rfl, rfl⟩
      · have hd3 : xs.drop ((a : Int) + q.wire.length + 4).toNat = be16 r.body.length ++ ((r.body ++ R).take (k - q.wire.length - 6)) := by
          rw [h2, take_app_ge (be16 _) _ _ (by show 2 ≤ _; omega)]
          rfl
        have hnum := num_drop (a := (a : Int) + q.wire.length + 4) (n := 2) (by omega) hd3 (by rfl) (by decide)
        have he := partE_short (len := xs.length) (a := (a : Int) + q.wire.length + 4 + 2) (n := (r.body.length : Int)) (by omega) (by omega) (by omega)
        have hf : (fillR xs ((a : Int) + q.wire.length + 4) ⟨q.name, q.typ, q.cls, r.ttl, Ad.zero, [], []⟩).2.2 = .fault ((a : Int) + q.wire.length + 4) 3 := by
          unfold fillR
          rw [hnum.2.1, if_neg (by simp), hnum.1, be_be16, he, if_pos (by simp)]
        rw [h1, hf, if_pos (by simp)]
        exact ⟨_, rfl, rfl⟩
theorem byts_take {xs : List Int} (h : Byts xs) (k : Nat) : Byts (xs.take k) := fun x hx => h x (List.mem_of_mem_take hx)
theorem byts_be16 {v : Int} (h0 : 0 ≤ v) (h1 : v ≤ 65535) : Byts (be16 v) := by
  intro x hx
  simp only [be16, List.mem_cons, List.not_mem_nil, or_false] at hx
  rcases hx with rfl | rfl <;> omega
theorem byts_be32 {v : Int} (h0 : 0 ≤ v) (h1 : v ≤ 4294967295) : Byts (be32 v) := by
  intro x hx
  simp only [be32, List.mem_cons, List.not_mem_nil, or_false] at hx
  rcases hx with rfl | rfl | rfl | rfl <;> omega
theorem byts_ad (a : Ad) (h : a.ok) : Byts a.l := by
  intro x hx
  simp only [Ad.l, List.mem_cons, List.not_mem_nil, or_false] at hx
  rcases hx with rfl | rfl | rfl | rfl | rfl | rfl | rfl | rfl | rfl | rfl | rfl | rfl | rfl | rfl | rfl | rfl <;> exact h _ (by decide)
theorem byts_wireQ (q : Qu) (h : q.right = true) : Byts q.wire := by
  obtain ⟨hn, ht, hc⟩ := Qu.right_mk h
  exact byts_app (byts_app (byts_name _ hn) (byts_be16 ht.1 ht.2)) (byts_be16 hc.1 hc.2)
theorem byts_wire (r : Rec) (h : r.right = true) (hok : r.ok) (h0 : 0 ≤ r.ttl) (h1 : r.ttl ≤ 4294967295) : Byts r.wire := by
  have hp := Rec.parts h
  have hbl := body_len r h
  have hb : Byts r.body := by
    unfold Rec.body
    split
    · exact byts_name _ hp.t
    · exact byts_app (fun x hx => byts_ad _ hok.ad x (List.mem_of_mem_take hx)) hok.data
  exact byts_app (byts_app (byts_app (byts_wireQ _ hp.q) (byts_be32 h0 h1)) (byts_be16 (by omega) (by omega))) hb
theorem wireQ_le (q : Qu) (h : q.right = true) : q.wire.length ≤ 260 := by
  have := nameW_len _ (Qu.right_mk h).1
  rw [wire_q_len]
  omega
theorem wire_le (r : Rec) (h : r.right = true) : r.wire.length ≤ 1282 := by
  have hp := Rec.parts h
  have hbl := body_len r h
  have := wireQ_le _ hp.q
  rw [wire_len_rec]
  omega
/-- The law. -/
theorem back_law (r : Rec) (q : Qu) (hr : r.right = true) (hq : q.right = true) (ah : List Int) (k : Nat) (hk : k < r.wire.length) :
    recR (ah ++ r.wire ++ q.wire) (ah.length : Int) = (r.norm, (ah.length : Int) + r.wire.length, .none)
    ∧ quR (ah ++ r.wire ++ q.wire) ((ah.length : Int) + r.wire.length) = (q, (((ah ++ r.wire ++ q.wire).length : Nat) : Int), .none)
    ∧ ((ah ++ r.wire ++ q.wire).take (ah.length + k)).length = ah.length + k
    ∧ ∃ er, recR ((ah ++ r.wire ++ q.wire).take (ah.length + k)) (ah.length : Int) = (Rec.zero, 0, er) ∧ er.num = 3 := by
  have hl : ((ah ++ r.wire ++ q.wire).take (ah.length + k)).length = ah.length + k := by
    rw [List.length_take, List.length_append, List.length_append]
    omega
  refine ⟨back_rec r hr (rest := q.wire) (by omega) (by rw [Int.toNat_natCast, List.append_assoc, List.drop_left' rfl]), ?_, hl, ?_⟩
  · have h := quR_drop q hq (xs := ah ++ r.wire ++ q.wire) (a := (ah.length : Int) + r.wire.length) (rest := []) (by omega) (by
      rw [show ((ah.length : Int) + (r.wire.length : Int)).toNat = (ah ++ r.wire).length by rw [List.length_append]; omega, List.drop_left' rfl, List.append_nil])
    rw [h]
    congr 2
    simp only [List.length_append]
    omega
  · refine recR_cut r hr (R := q.wire) hk ?_ hl
    rw [List.drop_take, Nat.add_sub_cancel_left, List.append_assoc, List.drop_left' rfl]
end Go.Proofs.YtlkneoednkhleaaGreatDoor

namespace Go.Proofs.YtlkneoednkhleaaGreatDoor
open Go.RowKit Go.Proofs.YtlkneoednkhleaaGreatDoorW.PrintWords
set_option linter.unusedVariables false
set_option linter.unusedSimpArgs false
set_option maxRecDepth 100000
set_option maxHeartbeats 2000000

/-- So many questions from a place on, behind some. -/
def qsR (xs : List Int) : Nat → Int → List Qu → List Qu × Int × Er
  | 0, a, l => (l, a, .none)
  | n + 1, a, l => if (quR xs a).2.2 ≠ .none then ([], 0, (quR xs a).2.2) else qsR xs n (quR xs a).2.1 (l ++ [(quR xs a).1])
/-- So many records. -/
def rsR (xs : List Int) : Nat → Int → List Rec → List Rec × Int × Er
  | 0, a, l => (l, a, .none)
  | n + 1, a, l => if (recR xs a).2.2 ≠ .none then ([], 0, (recR xs a).2.2) else rsR xs n (recR xs a).2.1 (l ++ [(recR xs a).1])
theorem fillR_end (xs : List Int) (a : Int) (r : Rec) : (fillR xs a r).2.2 = .none → 0 ≤ a → a ≤ xs.length → Byts xs → 0 ≤ (fillR xs a r).2.1 ∧ (fillR xs a r).2.1 ≤ xs.length := by
  intro h h0 h1 hx
  unfold fillR at h ⊢
  split at h
  · rename_i g; exact absurd h g
  · rename_i g1
    have g1' : partE xs.length a 2 = .none := by simpa using g1
    rw [if_neg g1]
    split at h
    · cases h
    · rename_i g2
      have g2' : partE xs.length (a + 2) (numV xs a 2) = .none := by simpa using g2
      have p1 := partE_none g1'
      have p2 := partE_none g2'
      have hn := num_range xs a 2 hx (.inl rfl)
      rw [if_neg g2]
      have hle : 0 ≤ a + 2 + numV xs a 2 ∧ a + 2 + numV xs a 2 ≤ xs.length := by
        refine ⟨by omega, ?_⟩
        by_cases hz : 0 < numV xs a 2
        · have := p2.2.2 hz; omega
        · have := p1.2.2 (by decide); omega
      split at h
      · rename_i g3
        rw [if_pos g3]
        split at h
        · rename_i g4; exact absurd h g4
        · rename_i g4
          rw [if_neg g4]
          split at h
          · cases h
          · rename_i g5
            rw [if_neg g5]
            exact hle
      · rename_i g3
        rw [if_neg g3]
        split at h
        · rename_i g4
          rw [if_pos g4]
          exact hle
        · rename_i g4
          rw [if_neg g4]
          split at h
          · cases h
          · rename_i g5
            rw [if_neg g5]
            exact hle
theorem recR_end (xs : List Int) (a : Int) (hx : Byts xs) : 0 ≤ (recR xs a).2.1 ∧ (recR xs a).2.1 ≤ xs.length := by
  have hq := quR_end xs a hx
  unfold recR
  split
  · exact ⟨Int.le_refl _, by simp⟩
  · split
    · exact ⟨Int.le_refl _, by simp⟩
    · rename_i g2
      have g2' : partE xs.length (quR xs a).2.1 4 = .none := by simpa using g2
      have p2 := partE_none g2'
      have p3 := p2.2.2 (by decide)
      dsimp only
      split
      · exact ⟨Int.le_refl _, by simp⟩
      · rename_i g3
        have g3' : (fillR xs ((quR xs a).2.1 + 4) { Rec.zero with name := (quR xs a).1.name, typ := (quR xs a).1.typ, cls := (quR xs a).1.cls, ttl := numV xs (quR xs a).2.1 4 }).2.2 = .none := by simpa using g3
        exact fillR_end xs _ _ g3' (by omega) (by omega) hx

theorem R_own_lt {α : Type} {d : Kd α} {e : Nat} {w : World} {base : Nat} {ok : Nat → Prop} {v : Value} {xs : List α} (h : d.R e w base ok v xs) (k : Nat) (hk : v.ownBlock = some k) : k < w.heap.size := by
  obtain ⟨-, inner, hown, -⟩ := h
  exact own_lt hown k hk
section
variable {ops : Array Oper} {rest : List Oper} {o : Oper} {a : Act} {Q : Exit → Act → World → Prop} {w0 W : World} {base : Nat} {v : Value} {s x : Operand}
/-- One question behind some. -/
theorem app_qu (hgd : o.guard = none) (ho : o.op = .call { callee := .builtin .append, args := #[s, x], argTypes := #[56, 56] })
    (xs : List Qu) (p : Qu) (hs : a.eval s = v) (hx : a.eval x = .slice (some ⟨W.heap.size, 0, none⟩) 1 1) (HO : quK.R 30 W base (fun _ => True) v xs) (HB : Below base w0 W) (hbase : base ≤ W.heap.size) (hl : (xs.length + 1) * 32 ≤ 140737488355328)
    (h : ∀ v1 w1, Kp (quK.R 30 w1 base (fun _ => True) v1 (xs ++ [p])) → Kp (Below base w0 w1) → Kp (base ≤ w1.heap.size) → wpList Tryz.prog ops Q rest (a.put o.dst v1) w1) :
    wpList Tryz.prog ops Q (o :: rest) a (W.alloc (.cells #[.string (mkB p.name), .int .i64 p.typ, .int .i64 p.cls] 30)) :=
  Kd.R_append (w0 := w0) quK base hgd s x 56 30 (.agg #[.string ⟨#[]⟩, .int .i64 0, .int .i64 0]) 32 ho Tryz.underlying56 (by kernel_rfl) rfl (by decide) (by decide) v xs p [.string (mkB p.name), .int .i64 p.typ, .int .i64 p.cls] (fun _ => True) (fun _ => False) hs hx (quK_M p) (fun _ h => h.elim) (fun _ _ => trivial) HO HB hbase hl
    (fun v1 w1 h1 h2 h3 _ => h v1 w1 ⟨h1⟩ ⟨h2⟩ ⟨Nat.le_trans hbase h3.size⟩)
/-- One record, its data younger than the row. -/
theorem app_rec (hgd : o.guard = none) (ho : o.op = .call { callee := .builtin .append, args := #[s, x], argTypes := #[57, 57] })
    (xs : List Rec) (p : Rec) (dv : Value) (b1 : Nat) (hs : a.eval s = v) (hx : a.eval x = .slice (some ⟨W.heap.size, 0, none⟩) 1 1) (hp : (Kd.int .u8).R 5 W b1 (fun _ => True) dv p.data) (hb1 : base ≤ b1) (hv : ∀ k, v.ownBlock = some k → k < b1)
    (HO : recK.R 28 W base (fun _ => True) v xs) (HB : Below base w0 W) (hbase : base ≤ W.heap.size) (hl : (xs.length + 1) * 96 ≤ 140737488355328)
    (h : ∀ v1 w1, Kp (recK.R 28 w1 base (fun _ => True) v1 (xs ++ [p])) → Kp (Below base w0 w1) → Kp (base ≤ w1.heap.size) → wpList Tryz.prog ops Q rest (a.put o.dst v1) w1) :
    wpList Tryz.prog ops Q (o :: rest) a (W.alloc (.cells (recA p dv) 28)) :=
  Kd.R_append (w0 := w0) recK base hgd s x 57 28 (.agg #[.string ⟨#[]⟩, .int .i64 0, .int .i64 0, .int .u32 0, .bool false, .int .u8 0, .int .u8 0, .int .u8 0, .int .u8 0, .int .u8 0, .int .u8 0, .int .u8 0, .int .u8 0, .int .u8 0, .int .u8 0, .int .u8 0, .int .u8 0, .int .u8 0, .int .u8 0, .int .u8 0, .int .u8 0, .string ⟨#[]⟩, .slice none 0 0]) 96 ho Tryz.underlying57 (by kernel_rfl) rfl (by decide) (by decide) v xs p (recA p dv).toList (fun _ => True) (fun k => b1 ≤ k) hs hx (recK_M (Kd.R_lower (Kd.R_mono (Kd.R_bound hp) (fun k hk => hk.2.1)) hb1)) (fun k hk => ⟨trivial, fun e => by have := hv k e.symm; omega⟩) (fun _ _ => trivial) HO HB hbase hl
    (fun v1 w1 h1 h2 h3 _ => h v1 w1 ⟨h1⟩ ⟨h2⟩ ⟨Nat.le_trans hbase h3.size⟩)
end

theorem questions_calls (A : Option Addr) (c : Nat) (xs : List Int) (a : Int) (N : Nat) (w : World) (ql : List Qu) (qa : Int) (qe : Er) (h : (Kd.int .u8).C w A xs.length xs) (hx8 : Byts xs) (hc : xs.length ≤ c) (hcm : c ≤ 9223372036854775807) (hE : Env w) (hl : xs.length ≤ 140737488355328)
    (ha0 : 0 ≤ a) (ha : a ≤ 9223372036854775807) (hN : N ≤ 1000000) (hr : qsR xs N a [] = (ql, qa, qe)) :
    Calls Tryz.prog 102 #[.slice A xs.length c, .int .i64 a, .int .i64 N] w (Gives3 (Kd.slice 30 quK) (Kd.int .i64) erK ql qa qe w) := by
  have HS := Kp.mk (St.start hE)
  have HC := Kp.mk h
  have HX := Kp.mk hx8
  have HR := Kp.mk hr
  clear h hx8 hE hr
  go_enter Tryz.func102, Tryz.ntmps102
  go_wp2_with (fail)
  go_loopw [1, 9, 14] (fun at_ v i wr => ∃ (k : Nat) (a1 : Int) (l : List Qu), k ≤ N ∧ i = .int .i64 k ∧ at_ = .int .i64 a1 ∧ Kp (St w wr) ∧ Kp (quK.R 30 wr w.heap.size (fun _ => True) v l) ∧ Kp (qsR xs (N - k) a1 l = (ql, qa, qe)) ∧ Kp (l.length = k) ∧ 0 ≤ a1 ∧ a1 ≤ 9223372036854775807) (fun _ _ i _ => N - (intOf i).toNat)
  case atStart => exact ⟨0, a, [], Nat.zero_le _, rfl, rfl, HS, ⟨Kd.R_nil _ _ _ _ _⟩, HR, ⟨rfl⟩, ha0, ha⟩
  case round =>
    obtain ⟨k, a1, l, hk, rfl, rfl, HSr, HRl, HQ, HLk, ha1, ha2⟩ := hrel
    by_cases hlt : k < N
    · have hq := HQ.out
      obtain ⟨m, hm⟩ : ∃ m, N - k = m + 1 := ⟨N - k - 1, by omega⟩
      rw [hm, qsR] at hq
      obtain ⟨⟨qn, qt, qc⟩, en, er, hqr⟩ : ∃ q en er, quR xs a1 = (q, en, er) := ⟨_, _, _, rfl⟩
      have hen := quR_end xs a1 HX.out
      rw [hqr] at hq hen
      dsimp only at hq hen
      have HQR := Kp.mk hqr
      have HM := Kp.mk hm
      have HQ1 := Kp.mk hq
      clear hqr hm hq HQ
      go_wp2_with (fail)
      refine (quRead_calls A c xs a1 _ ⟨qn, qt, qc⟩ en er (Kd.C_below HC.out HSr.out.below) HX.out hc hcm HSr.out.env hl ha2 HQR.out).mono ?_
      rintro e2 w2 ⟨v2, rfl, hM2, hB2⟩
      have HS2 := Kp.mk (HSr.out.step hB2)
      have HR2 := Kp.mk (Kd.R_below HRl.out hB2)
      have HM2 := Kp.mk hM2
      have HZ2 := Kp.mk (HS2.out.below.alloc HS2.out.size (.cells #[.string ⟨#[]⟩, .int .i64 0, .int .i64 0] 30))
      clear hM2 hB2
      go_wp2_with (with_reducible refine st_blk (w0 := w) (base := w.heap.size) rfl 30 (.tmp 10) (.tmp 20) rfl rfl w2.heap.size _ rfl rfl ⟨heap_new _ _⟩ (by kernel_rfl) (by kernel_rfl) (by kernel_rfl) HZ2 HS2.out.size ?_)
      intro w3 Hg3 HO3 HB3 hs3
      have hB23 := stored_new HS2.out.below HB3.out hs3 HO3.out
      have HS3 := Kp.mk (HS2.out.step hB23)
      have HR3 := Kp.mk (Kd.R_below HR2.out hB23)
      have HM3 := Kp.mk (erK.M_below HM2.out hB23)
      clear hs3 hB23 HO3 HB3 HZ2 HR2 HM2
      by_cases g : er = .none
      · subst g
        obtain rfl := er_open_none (erK.K_of_M HM3.out)
        have hq := HQ1.out
        rw [if_neg (by simp)] at hq
        have HQ2 := Kp.mk hq
        clear hq HQ1
        have d0 := blk_cell Hg3.out 0
        have d1 := blk_cell Hg3.out 1
        have d2 := blk_cell Hg3.out 2
        go_wp2_with (at_builtin; (with_reducible refine gate_builtin (b := .append) (xs := #[.tmp 26, .tmp 28]) rfl ?_); go_must (refine app_qu (w0 := w) (s := .tmp 26) (x := .tmp 28) (v := u9) (base := w.heap.size) rfl rfl l ⟨qn, qt, qc⟩ rfl rfl HR3.out HS3.out.below HS3.out.size (by have := HLk.out; omega) ?_))
        intro v4 w4 HR4 HB4 hs4
        go_wp2
        exact ⟨⟨k + 1, en, l ++ [⟨qn, qt, qc⟩], by omega, by go_num, rfl, ⟨⟨HB4.out, HS.out.env.below HB4.out⟩⟩, HR4, ⟨by rw [show N - (k + 1) = m by have := HM.out; omega]; exact HQ2.out⟩, ⟨by rw [List.length_append, HLk.out]; rfl⟩, hen.1, by omega⟩, by simp [intOf]; omega⟩
      · obtain ⟨T, u, rfl⟩ := er_some (erK.K_of_M HM3.out) g
        have hq := HQ1.out
        rw [if_pos g] at hq
        obtain ⟨rfl, rfl, rfl⟩ : ([] : List Qu) = ql ∧ (0 : Int) = qa ∧ er = qe := by simpa using hq
        clear hq HQ1
        go_wp2
        go_ret3
        exact ⟨_, _, _, rfl, ⟨_, rfl, Kd.R_nil _ _ _ _ _⟩, rfl, erK.M_lower HSr.out.size HM3.out, HS3.out.below⟩
    · obtain rfl : k = N := by omega
      have hq := HQ.out
      rw [Nat.sub_self, qsR] at hq
      obtain ⟨rfl, rfl, rfl⟩ : l = ql ∧ a1 = qa ∧ Er.none = qe := by simpa using hq
      clear hq HQ hlt
      go_wp2
      go_ret3
      exact ⟨_, _, _, rfl, ⟨_, rfl, HRl.out⟩, rfl, er_none _ _ _, HSr.out.below⟩
theorem records_calls (A : Option Addr) (c : Nat) (xs : List Int) (a : Int) (N : Nat) (w : World) (rl : List Rec) (ra : Int) (re : Er) (h : (Kd.int .u8).C w A xs.length xs) (hx8 : Byts xs) (hc : xs.length ≤ c) (hcm : c ≤ 9223372036854775807) (hE : Env w) (hl : xs.length ≤ 140737488355328)
    (ha0 : 0 ≤ a) (ha : a ≤ 9223372036854775807) (hN : N ≤ 1000000) (hr : rsR xs N a [] = (rl, ra, re)) :
    Calls Tryz.prog 103 #[.slice A xs.length c, .int .i64 a, .int .i64 N] w (Gives3 (Kd.slice 28 recK) (Kd.int .i64) erK rl ra re w) := by
  have HS := Kp.mk (St.start hE)
  have HC := Kp.mk h
  have HX := Kp.mk hx8
  have HR := Kp.mk hr
  clear h hx8 hE hr
  go_enter Tryz.func103, Tryz.ntmps103
  go_wp2_with (fail)
  go_loopw [1, 9, 14] (fun at_ v i wr => ∃ (k : Nat) (a1 : Int) (l : List Rec), k ≤ N ∧ i = .int .i64 k ∧ at_ = .int .i64 a1 ∧ Kp (St w wr) ∧ Kp (recK.R 28 wr w.heap.size (fun _ => True) v l) ∧ Kp (rsR xs (N - k) a1 l = (rl, ra, re)) ∧ Kp (l.length = k) ∧ 0 ≤ a1 ∧ a1 ≤ 9223372036854775807) (fun _ _ i _ => N - (intOf i).toNat)
  case atStart => exact ⟨0, a, [], Nat.zero_le _, rfl, rfl, HS, ⟨Kd.R_nil _ _ _ _ _⟩, HR, ⟨rfl⟩, ha0, ha⟩
  case round =>
    obtain ⟨k, a1, l, hk, rfl, rfl, HSr, HRl, HQ, HLk, ha1, ha2⟩ := hrel
    by_cases hlt : k < N
    · have hq := HQ.out
      obtain ⟨m, hm⟩ : ∃ m, N - k = m + 1 := ⟨N - k - 1, by omega⟩
      rw [hm, rsR] at hq
      obtain ⟨⟨rn, rt, rc, rtl, ⟨v6, b⟩, rtg, rd⟩, en, er, hqr⟩ : ∃ q en er, recR xs a1 = (q, en, er) := ⟨_, _, _, rfl⟩
      have hen := recR_end xs a1 HX.out
      rw [hqr] at hq hen
      dsimp only at hq hen
      have hen2 : en ≤ 9223372036854775807 := by omega
      have hk1 : k + 1 ≤ N := by omega
      have HKM : Kp (N - (k + 1) = m ∧ N - (k + 1) < N - k) := ⟨by omega⟩
      have HQR := Kp.mk hqr
      have HM := Kp.mk hm
      have HQ1 := Kp.mk hq
      clear hqr hm hq HQ
      go_wp2_with (fail)
      refine (recRead_calls A c xs a1 _ ⟨rn, rt, rc, rtl, ⟨v6, b⟩, rtg, rd⟩ en er (Kd.C_below HC.out HSr.out.below) HX.out hc hcm HSr.out.env hl ha2 HQR.out).mono ?_
      rintro e2 w2 ⟨dv, v2, rfl, hR2, hM2, hB2⟩
      obtain ⟨A2, c2, rfl⟩ := Kd.R_slice hR2
      have HS2 := Kp.mk (HSr.out.step hB2)
      have HD2 := Kp.mk hR2
      have HR2 := Kp.mk (Kd.R_below HRl.out hB2)
      have HOL := Kp.mk (fun k hk => R_own_lt HRl.out k hk)
      have HLL : Kp ((l.length + 1) * 96 ≤ 140737488355328) := ⟨by have := HLk.out; omega⟩
      have HM2 := Kp.mk hM2
      have HZ2 := Kp.mk (HS2.out.below.alloc HS2.out.size (.cells #[.string ⟨#[]⟩, .int .i64 0, .int .i64 0, .int .u32 0, .bool false, .int .u8 0, .int .u8 0, .int .u8 0, .int .u8 0, .int .u8 0, .int .u8 0, .int .u8 0, .int .u8 0, .int .u8 0, .int .u8 0, .int .u8 0, .int .u8 0, .int .u8 0, .int .u8 0, .int .u8 0, .int .u8 0, .string ⟨#[]⟩, .slice none 0 0] 28))
      clear hM2 hB2 hR2
      go_wp2_with (with_reducible refine st_blk (w0 := w) (base := w.heap.size) rfl 28 (.tmp 10) (.tmp 20) rfl rfl w2.heap.size _ rfl rfl ⟨heap_new _ _⟩ (by kernel_rfl) (by kernel_rfl) (by kernel_rfl) HZ2 HS2.out.size ?_)
      intro w3 Hg3 HO3 HB3 hs3
      have hB23 := stored_new HS2.out.below HB3.out hs3 HO3.out
      have HS3 := Kp.mk (HS2.out.step hB23)
      have HR3 := Kp.mk (Kd.R_below HR2.out hB23)
      have HD3 := Kp.mk (Kd.R_below HD2.out hB23)
      have HM3 := Kp.mk (erK.M_below HM2.out hB23)
      clear hs3 hB23 HO3 HB3 HZ2 HR2 HD2 HM2
      by_cases g : er = .none
      · subst g
        obtain rfl := er_open_none (erK.K_of_M HM3.out)
        have hq := HQ1.out
        rw [if_neg (by simp)] at hq
        have HQ2 := Kp.mk hq
        clear hq HQ1
        go_wp2_with (first
          | (with_reducible refine ld_blk rfl 28 (.tmp 10) rfl w2.heap.size rfl Hg3 Tryz.underlying28 rfl (by kernel_rfl) ?_)
          | (at_builtin; (with_reducible refine gate_builtin (b := .append) (xs := #[.tmp 26, .tmp 28]) rfl ?_); go_must (refine app_rec (w0 := w) (W := w3) (s := .tmp 26) (x := .tmp 28) (v := u9) (base := w.heap.size) rfl rfl l ⟨rn, rt, rc, rtl, ⟨v6, b⟩, rtg, rd⟩ (.slice A2 rd.length c2) wr.heap.size rfl rfl HD3.out HSr.out.size HOL.out HR3.out HS3.out.below HS3.out.size HLL.out ?_)))
        intro v4 w4 HR4 HB4 hs4
        go_wp2
        obtain ⟨l4, hl4⟩ : ∃ l4, l ++ [(⟨rn, rt, rc, rtl, ⟨v6, b⟩, rtg, rd⟩ : Rec)] = l4 := ⟨_, rfl⟩
        have HL4 : Kp (l4.length = k + 1) := ⟨by rw [← hl4, List.length_append, HLk.out]; rfl⟩
        have HQ4 : Kp (rsR xs (N - (k + 1)) en l4 = (rl, ra, re)) := ⟨by rw [HKM.out.1, ← hl4]; exact HQ2.out⟩
        rw [hl4] at HR4
        clear hl4
        refine ⟨⟨k + 1, en, l4, hk1, by go_num, rfl, ⟨⟨HB4.out, HS.out.env.below HB4.out⟩⟩, HR4, HQ4, HL4, hen.1, hen2⟩, ?_⟩
        have hi1 : (intOf (Value.int .i64 ((k : Int) + 1))).toNat = k + 1 := by simp [intOf] <;> omega
        have hi2 : (intOf (Value.int .i64 (k : Int))).toNat = k := by simp [intOf]
        rw [hi1, hi2]
        exact HKM.out.2
      · obtain ⟨T, u, rfl⟩ := er_some (erK.K_of_M HM3.out) g
        have hq := HQ1.out
        rw [if_pos g] at hq
        obtain ⟨rfl, rfl, rfl⟩ : ([] : List Rec) = rl ∧ (0 : Int) = ra ∧ er = re := by simpa using hq
        clear hq HQ1
        go_wp2
        go_ret3
        exact ⟨_, _, _, rfl, ⟨_, rfl, Kd.R_nil _ _ _ _ _⟩, rfl, erK.M_lower HSr.out.size HM3.out, HS3.out.below⟩
    · obtain rfl : k = N := by omega
      have hq := HQ.out
      rw [Nat.sub_self, rsR] at hq
      obtain ⟨rfl, rfl, rfl⟩ : l = rl ∧ a1 = ra ∧ Er.none = re := by simpa using hq
      clear hq HQ hlt
      go_wp2
      go_ret3
      exact ⟨_, _, _, rfl, ⟨_, rfl, HRl.out⟩, rfl, er_none _ _ _, HSr.out.below⟩
end Go.Proofs.YtlkneoednkhleaaGreatDoor

namespace Go.Proofs.YtlkneoednkhleaaGreatDoor
open Go.RowKit Go.Proofs.YtlkneoednkhleaaGreatDoorW.PrintWords
set_option linter.unusedVariables false
set_option linter.unusedSimpArgs false
set_option maxRecDepth 100000
set_option maxHeartbeats 4000000

/-- A message. -/
structure Msg where
  id : Int
  rp : Bool
  op : Int
  co : Int
  fl : Int
  qs : List Qu
  an : List Rec
  au : List Rec
  ex : List Rec
abbrev Bod := List Qu × List Rec × List Rec × List Rec
def bodyR3 (xs : List Int) (ql : List Qu) (l1 l2 : List Rec) (n : Nat) (a : Int) : Bod × Int × Er :=
  if (rsR xs n a []).2.2 ≠ .none then (([], [], [], []), 0, (rsR xs n a []).2.2) else ((ql, l1, l2, (rsR xs n a []).1), (rsR xs n a []).2.1, .none)
def bodyR2 (xs : List Int) (ql : List Qu) (l1 : List Rec) (n n3 : Nat) (a : Int) : Bod × Int × Er :=
  if (rsR xs n a []).2.2 ≠ .none then (([], [], [], []), 0, (rsR xs n a []).2.2) else bodyR3 xs ql l1 (rsR xs n a []).1 n3 (rsR xs n a []).2.1
def bodyR1 (xs : List Int) (ql : List Qu) (n n2 n3 : Nat) (a : Int) : Bod × Int × Er :=
  if (rsR xs n a []).2.2 ≠ .none then (([], [], [], []), 0, (rsR xs n a []).2.2) else bodyR2 xs ql (rsR xs n a []).1 n2 n3 (rsR xs n a []).2.1
/-- What stands behind a message's head. -/
def bodyR (xs : List Int) (n0 n1 n2 n3 : Nat) : Bod × Int × Er :=
  if (qsR xs n0 12 []).2.2 ≠ .none then (([], [], [], []), 0, (qsR xs n0 12 []).2.2) else bodyR1 xs (qsR xs n0 12 []).1 n1 n2 n3 (qsR xs n0 12 []).2.1
/-- .. from a round on. -/
def bodyK (xs : List Int) (n1 n2 n3 : Nat) (ql : List Qu) (l1 l2 l3 : List Rec) (a : Int) : Nat → Bod × Int × Er
  | 0 => bodyR1 xs ql n1 n2 n3 a
  | 1 => bodyR2 xs ql l1 n2 n3 a
  | 2 => bodyR3 xs ql l1 l2 n3 a
  | _ => ((ql, l1, l2, l3), a, .none)
theorem rsR_end (xs : List Int) (hx : Byts xs) : ∀ (n : Nat) (a : Int) (l : List Rec), 0 ≤ a → a ≤ xs.length → 0 ≤ (rsR xs n a l).2.1 ∧ (rsR xs n a l).2.1 ≤ xs.length
  | 0, a, l, h0, h1 => ⟨h0, h1⟩
  | n + 1, a, l, h0, h1 => by
    have := recR_end xs a hx
    rw [rsR]
    split
    · exact ⟨Int.le_refl _, by simp⟩
    · exact rsR_end xs hx n _ _ this.1 this.2
theorem qsR_end (xs : List Int) (hx : Byts xs) : ∀ (n : Nat) (a : Int) (l : List Qu), 0 ≤ a → a ≤ xs.length → 0 ≤ (qsR xs n a l).2.1 ∧ (qsR xs n a l).2.1 ≤ xs.length
  | 0, a, l, h0, h1 => ⟨h0, h1⟩
  | n + 1, a, l, h0, h1 => by
    have := quR_end xs a hx
    rw [qsR]
    split
    · exact ⟨Int.le_refl _, by simp⟩
    · exact qsR_end xs hx n _ _ this.1 this.2
structure BodyW (w0 w wr : World) (g : Nat) (n0 n1 n2 n3 : Nat) (id : Int) (rp : Bool) (op co fl : Int) (v5 u6 u7 u8 : Value) (ql : List Qu) (l1 l2 l3 : List Rec) : Prop where
  blk : wr.heap[g]? = some (.cells #[.int .i64 id, .bool rp, .int .i64 op, .int .i64 co, .int .i64 fl, v5, u6, u7, u8] 59 (0, 0))
  box : wr.heap[w.heap.size]? = some (.cells #[.int .i64 n0, .int .i64 n1, .int .i64 n2, .int .i64 n3] 120 (0, 0))
  r5 : quK.R 30 wr w0.heap.size (fun k => k ≠ g) v5 ql
  r6 : recK.R 28 wr w0.heap.size (fun k => k ≠ g) u6 l1
  r7 : recK.R 28 wr w0.heap.size (fun k => k ≠ g) u7 l2
  r8 : recK.R 28 wr w0.heap.size (fun k => k ≠ g) u8 l3
  st : St w0 wr
  env0 : Env w0
  sz : w.heap.size < wr.heap.size
  oth : ∀ k, k < w.heap.size → k ≠ g → wr.heap[k]? = w.heap[k]?
theorem BodyW.step {w0 w wr w2 : World} {g n0 n1 n2 n3 : Nat} {id : Int} {rp : Bool} {op co fl : Int} {v5 u6 u7 u8 : Value} {ql : List Qu} {l1 l2 l3 : List Rec} (h : BodyW w0 w wr g n0 n1 n2 n3 id rp op co fl v5 u6 u7 u8 ql l1 l2 l3) (hb : Below wr.heap.size wr w2) :
    BodyW w0 w w2 g n0 n1 n2 n3 id rp op co fl v5 u6 u7 u8 ql l1 l2 l3 :=
  ⟨(hb.block _ (heap_lt h.blk)).trans h.blk, (hb.block _ (heap_lt h.box)).trans h.box, Kd.R_below h.r5 hb, Kd.R_below h.r6 hb, Kd.R_below h.r7 hb, Kd.R_below h.r8 hb, h.st.step hb, h.env0, by have := hb.size; have := h.sz; omega,
    fun k hk hg => (hb.block k (by have := h.sz; omega)).trans (h.oth k hk hg)⟩
/-- A row of the callee's own, apart from an elder block. -/
theorem R_apart {α : Type} {d : Kd α} {e : Nat} {w : World} {b b0 g : Nat} {v : Value} {xs : List α} (h : d.R e w b (fun _ => True) v xs) (hb : b0 ≤ b) (hg : g < b) : d.R e w b0 (fun k => k ≠ g) v xs :=
  Kd.R_lower (Kd.R_mono (Kd.R_bound h) (fun k hk => by have := hk.2.1; omega)) hb
theorem slice_M {α : Type} {d : Kd α} {t : Nat} {w : World} {b : Nat} {ok : Nat → Prop} {xs : List α} {v : Value} (h : (Kd.slice t d).M w b ok xs [v]) : d.R t w b ok v xs := by
  obtain ⟨u, hu, hR⟩ := h
  obtain rfl := List.singleton_inj.1 hu
  exact hR

theorem BodyW.put6 {w0 w wr : World} {g n0 n1 n2 n3 : Nat} {id : Int} {rp : Bool} {op co fl : Int} {v5 u6 u7 u8 : Value} {ql : List Qu} {l1 l2 l3 : List Rec} (h : BodyW w0 w wr g n0 n1 n2 n3 id rp op co fl v5 u6 u7 u8 ql l1 l2 l3) {x : Value} {y : List Rec} (hx : recK.R 28 wr w0.heap.size (fun k => k ≠ g) x y) (hg : w0.heap.size ≤ g) (hgw : g < w.heap.size) :
    BodyW w0 w (wr.setCell ⟨g, 6, none⟩ x) g n0 n1 n2 n3 id rp op co fl v5 x u7 u8 ql y l2 l3 :=
  ⟨blk_put h.blk 6 x rfl, (Below.heap_setCell wr ⟨g, 6, none⟩ x w.heap.size (by show w.heap.size ≠ g; omega)).trans h.box, Kd.R_far (p := ⟨g, 6, none⟩) h.r5 (fun k hk => hk) _, Kd.R_far (p := ⟨g, 6, none⟩) hx (fun k hk => hk) _, Kd.R_far (p := ⟨g, 6, none⟩) h.r7 (fun k hk => hk) _, Kd.R_far (p := ⟨g, 6, none⟩) h.r8 (fun k hk => hk) _,
    ⟨h.st.below.setCell (p := ⟨g, 6, none⟩) hg x, h.env0.below (h.st.below.setCell (p := ⟨g, 6, none⟩) hg x)⟩, h.env0, by have := h.sz; simpa using this, fun k hk hkg => (Below.heap_setCell wr ⟨g, 6, none⟩ x k hkg).trans (h.oth k hk hkg)⟩

theorem BodyW.put7 {w0 w wr : World} {g n0 n1 n2 n3 : Nat} {id : Int} {rp : Bool} {op co fl : Int} {v5 u6 u7 u8 : Value} {ql : List Qu} {l1 l2 l3 : List Rec} (h : BodyW w0 w wr g n0 n1 n2 n3 id rp op co fl v5 u6 u7 u8 ql l1 l2 l3) {x : Value} {y : List Rec} (hx : recK.R 28 wr w0.heap.size (fun k => k ≠ g) x y) (hg : w0.heap.size ≤ g) (hgw : g < w.heap.size) :
    BodyW w0 w (wr.setCell ⟨g, 7, none⟩ x) g n0 n1 n2 n3 id rp op co fl v5 u6 x u8 ql l1 y l3 :=
  ⟨blk_put h.blk 7 x rfl, (Below.heap_setCell wr ⟨g, 7, none⟩ x w.heap.size (by show w.heap.size ≠ g; omega)).trans h.box, Kd.R_far (p := ⟨g, 7, none⟩) h.r5 (fun k hk => hk) _, Kd.R_far (p := ⟨g, 7, none⟩) h.r6 (fun k hk => hk) _, Kd.R_far (p := ⟨g, 7, none⟩) hx (fun k hk => hk) _, Kd.R_far (p := ⟨g, 7, none⟩) h.r8 (fun k hk => hk) _,
    ⟨h.st.below.setCell (p := ⟨g, 7, none⟩) hg x, h.env0.below (h.st.below.setCell (p := ⟨g, 7, none⟩) hg x)⟩, h.env0, by have := h.sz; simpa using this, fun k hk hkg => (Below.heap_setCell wr ⟨g, 7, none⟩ x k hkg).trans (h.oth k hk hkg)⟩

theorem BodyW.put8 {w0 w wr : World} {g n0 n1 n2 n3 : Nat} {id : Int} {rp : Bool} {op co fl : Int} {v5 u6 u7 u8 : Value} {ql : List Qu} {l1 l2 l3 : List Rec} (h : BodyW w0 w wr g n0 n1 n2 n3 id rp op co fl v5 u6 u7 u8 ql l1 l2 l3) {x : Value} {y : List Rec} (hx : recK.R 28 wr w0.heap.size (fun k => k ≠ g) x y) (hg : w0.heap.size ≤ g) (hgw : g < w.heap.size) :
    BodyW w0 w (wr.setCell ⟨g, 8, none⟩ x) g n0 n1 n2 n3 id rp op co fl v5 u6 u7 x ql l1 l2 y :=
  ⟨blk_put h.blk 8 x rfl, (Below.heap_setCell wr ⟨g, 8, none⟩ x w.heap.size (by show w.heap.size ≠ g; omega)).trans h.box, Kd.R_far (p := ⟨g, 8, none⟩) h.r5 (fun k hk => hk) _, Kd.R_far (p := ⟨g, 8, none⟩) h.r6 (fun k hk => hk) _, Kd.R_far (p := ⟨g, 8, none⟩) h.r7 (fun k hk => hk) _, Kd.R_far (p := ⟨g, 8, none⟩) hx (fun k hk => hk) _,
    ⟨h.st.below.setCell (p := ⟨g, 8, none⟩) hg x, h.env0.below (h.st.below.setCell (p := ⟨g, 8, none⟩) hg x)⟩, h.env0, by have := h.sz; simpa using this, fun k hk hkg => (Below.heap_setCell wr ⟨g, 8, none⟩ x k hkg).trans (h.oth k hk hkg)⟩

theorem run_index_ptr (g : Nat) (w : World) :
    (Instr.index 167 (.agg #[.pointer (some ⟨g, 6, none⟩), .pointer (some ⟨g, 7, none⟩), .pointer (some ⟨g, 8, none⟩)]) (.int .i64 0)).run Tryz.prog w = .ok (.pointer (some ⟨g, 6, none⟩)) w
    ∧ (Instr.index 167 (.agg #[.pointer (some ⟨g, 6, none⟩), .pointer (some ⟨g, 7, none⟩), .pointer (some ⟨g, 8, none⟩)]) (.int .i64 1)).run Tryz.prog w = .ok (.pointer (some ⟨g, 7, none⟩)) w
    ∧ (Instr.index 167 (.agg #[.pointer (some ⟨g, 6, none⟩), .pointer (some ⟨g, 7, none⟩), .pointer (some ⟨g, 8, none⟩)]) (.int .i64 2)).run Tryz.prog w = .ok (.pointer (some ⟨g, 8, none⟩)) w := by
  refine ⟨?_, ?_, ?_⟩ <;> simp [Instr.index, run_underlying Tryz.underlying167, asIntOf, go_sem]
def BodyPost (w0 w : World) (g : Nat) (id : Int) (rp : Bool) (op co fl : Int) (bd : Bod) (a : Int) (er : Er) (e : Ending) (w' : World) : Prop :=
  (∃ v, e = .returned (.tuple #[.int .i64 a, v]) ∧ erK.M w' w0.heap.size (fun k => k ≠ g) er [v]) ∧ St w0 w' ∧ w.heap.size ≤ w'.heap.size ∧ (∀ k, k < w.heap.size → k ≠ g → w'.heap[k]? = w.heap[k]?)
    ∧ (er = .none → ∃ v5 v6 v7 v8, w'.heap[g]? = some (.cells #[.int .i64 id, .bool rp, .int .i64 op, .int .i64 co, .int .i64 fl, v5, v6, v7, v8] 59 (0, 0)) ∧ quK.R 30 w' w0.heap.size (fun k => k ≠ g) v5 bd.1 ∧ recK.R 28 w' w0.heap.size (fun k => k ≠ g) v6 bd.2.1 ∧ recK.R 28 w' w0.heap.size (fun k => k ≠ g) v7 bd.2.2.1 ∧ recK.R 28 w' w0.heap.size (fun k => k ≠ g) v8 bd.2.2.2)
theorem erM_apart {w : World} {b b0 g : Nat} {x : Er} {v : Value} (h : erK.M w b (fun _ => True) x [v]) (hb : b0 ≤ b) (hg : g < b) : erK.M w b0 (fun k => k ≠ g) x [v] :=
  erK.M_lower hb (erK.M_mono (fun k hk => by have := hk.2.1; omega) (erK.M_bound h))

theorem body_calls (A : Option Addr) (c : Nat) (xs : List Int) (g n0 n1 n2 n3 : Nat) (id : Int) (rp : Bool) (op co fl : Int) (w0 w : World) (bd : Bod) (a : Int) (er : Er) (h : (Kd.int .u8).C w0 A xs.length xs) (hx8 : Byts xs) (hc : xs.length ≤ c) (hcm : c ≤ 9223372036854775807) (hS : St w0 w) (hE0 : Env w0) (hl : xs.length ≤ 140737488355328) (h12 : 12 ≤ xs.length)
    (hg0 : w0.heap.size ≤ g) (hg : w.heap[g]? = some (.cells #[.int .i64 id, .bool rp, .int .i64 op, .int .i64 co, .int .i64 fl, .slice none 0 0, .slice none 0 0, .slice none 0 0, .slice none 0 0] 59 (0, 0)))
    (hn0 : n0 ≤ 1000000) (hn1 : n1 ≤ 1000000) (hn2 : n2 ≤ 1000000) (hn3 : n3 ≤ 1000000) (hr : bodyR xs n0 n1 n2 n3 = (bd, a, er)) :
    Calls Tryz.prog 65 #[.pointer (some ⟨g, 0, none⟩), .slice A xs.length c, .agg #[.int .i64 n0, .int .i64 n1, .int .i64 n2, .int .i64 n3]] w (BodyPost w0 w g id rp op co fl bd a er) := by
  have hgl := heap_lt hg
  have HS := Kp.mk (hS.alloc (.cells #[.int .i64 n0, .int .i64 n1, .int .i64 n2, .int .i64 n3] 120))
  have Hb0 := Kp.mk (heap_new w (.cells #[.int .i64 n0, .int .i64 n1, .int .i64 n2, .int .i64 n3] 120))
  have Hg0 := Kp.mk ((((Below.refl w.heap.size w).alloc (Nat.le_refl _) (.cells #[.int .i64 n0, .int .i64 n1, .int .i64 n2, .int .i64 n3] 120)).block _ hgl).trans hg)
  have hz1 : (w.alloc (.cells #[.int .i64 n0, .int .i64 n1, .int .i64 n2, .int .i64 n3] 120)).heap.size = w.heap.size + 1 := by simp
  have HO0 := Kp.mk (fun k (hk : k < w.heap.size) => ((Below.refl w.heap.size w).alloc (Nat.le_refl _) (.cells #[.int .i64 n0, .int .i64 n1, .int .i64 n2, .int .i64 n3] 120)).block k hk)
  have HC := Kp.mk h
  have HX := Kp.mk hx8
  have HE0 := Kp.mk hE0
  obtain ⟨ql, qa, qe, hq⟩ : ∃ ql qa qe, qsR xs n0 12 [] = (ql, qa, qe) := ⟨_, _, _, rfl⟩
  have hqe := qsR_end xs hx8 n0 12 [] (by decide) (by omega)
  rw [bodyR, hq] at hr
  rw [hq] at hqe
  dsimp only at hr hqe
  have HQ := Kp.mk hq
  have HR := Kp.mk hr
  have HZ1 := Kp.mk hz1
  have c0 := blk_cell Hb0.out 0
  clear h hx8 hS hg hq hr hz1
  go_enter Tryz.func65, Tryz.ntmps65
  go_wp2_with (fail)
  refine g3_ (questions_calls A c xs 12 n0 _ ql qa qe (Kd.C_below HC.out HS.out.below) HX.out hc hcm HS.out.env hl (by decide) (by decide) hn0 HQ.out) HS ?_
  intro v1 v2 v3 w1 HM1 HM2 HM3 HB1 HS1
  obtain rfl : v2 = .int .i64 qa := List.singleton_inj.1 HM2.out
  obtain ⟨A1, c1, rfl⟩ := Kd.R_slice (slice_M HM1.out)
  have HR1 := Kp.mk (R_apart (b0 := w0.heap.size) (g := g) (slice_M HM1.out) HS.out.size (by rw [HZ1.out]; omega))
  have HE1 := Kp.mk (erM_apart (b0 := w0.heap.size) (g := g) HM3.out HS.out.size (by rw [HZ1.out]; omega))
  have Hb1 := Kp.mk ((HB1.out.block _ (heap_lt Hb0.out)).trans Hb0.out)
  have Hg1 := Kp.mk ((HB1.out.block _ (heap_lt Hg0.out)).trans Hg0.out)
  have HO1 := Kp.mk (fun k (hk : k < w.heap.size) => (HB1.out.block k (by rw [HZ1.out]; omega)).trans (HO0.out k hk))
  have hs1 : w.heap.size < w1.heap.size := heap_lt Hb1.out
  clear HM1 HM2 HB1 Hb0 Hg0 HO0 c0
  by_cases g1 : qe = .none
  case neg =>
    obtain ⟨T, u, rfl⟩ := er_some (erK.K_of_M HM3.out) g1
    have hr := HR.out
    rw [if_pos g1] at hr
    obtain ⟨rfl, rfl, rfl⟩ : (([], [], [], []) : Bod) = bd ∧ (0 : Int) = a ∧ qe = er := by simpa using hr
    clear hr HR
    go_wp2
    go_ret2
    exact ⟨⟨_, rfl, HE1.out⟩, HS1.out, Nat.le_of_lt hs1, fun k hk _ => HO1.out k hk, fun h => absurd h g1⟩
  subst g1
  obtain rfl := er_open_none (erK.K_of_M HM3.out)
  have hr := HR.out
  rw [if_neg (by simp)] at hr
  have HR2 := Kp.mk hr
  clear hr HR HM3 HE1
  have d5 := blk_cell Hg1.out 5
  have f5 := blk_frozen Hg1.out 5
  have HW0 : Kp (BodyW w0 w (w1.setCell ⟨g, 5, none⟩ (.slice A1 ql.length c1)) g n0 n1 n2 n3 id rp op co fl (.slice A1 ql.length c1) (.slice none 0 0) (.slice none 0 0) (.slice none 0 0) ql [] [] []) := ⟨
    blk_put Hg1.out 5 (.slice A1 ql.length c1) rfl, (Below.heap_setCell w1 ⟨g, 5, none⟩ (.slice A1 ql.length c1) w.heap.size (by show w.heap.size ≠ g; omega)).trans Hb1.out, Kd.R_far (p := ⟨g, 5, none⟩) HR1.out (fun k hk => hk) _, Kd.R_nil _ _ _ _ _, Kd.R_nil _ _ _ _ _, Kd.R_nil _ _ _ _ _,
    ⟨HS1.out.below.setCell (p := ⟨g, 5, none⟩) hg0 (.slice A1 ql.length c1), HE0.out.below (HS1.out.below.setCell (p := ⟨g, 5, none⟩) hg0 (.slice A1 ql.length c1))⟩, HE0.out, by simpa using hs1, fun k hk hkg => (Below.heap_setCell w1 ⟨g, 5, none⟩ (.slice A1 ql.length c1) k hkg).trans (HO1.out k hk)⟩
  clear Hb1 HR1 HO1
  go_wp2_with (fail)
  go_quiet (skip)
  have HW1 := Kp.mk (HW0.out.step (pw_below_drewN (Below.refl _ _) nq))
  clear HW0 d5 f5 Hg1 HS1
  generalize (w1.setCell ⟨g, 5, none⟩ (.slice A1 ql.length c1)).drewN nq = W1 at HW1 ⊢
  go_wp2_with (fail)
  go_loopw [9, 38] (fun at_ i wr => ∃ (k : Nat) (a1 : Int) (u6 u7 u8 : Value) (l1 l2 l3 : List Rec), k ≤ 3 ∧ i = .int .i64 k ∧ at_ = .int .i64 a1 ∧ Kp (BodyW w0 w wr g n0 n1 n2 n3 id rp op co fl (.slice A1 ql.length c1) u6 u7 u8 ql l1 l2 l3) ∧ Kp (bodyK xs n1 n2 n3 ql l1 l2 l3 a1 k = (bd, a, er)) ∧ 0 ≤ a1 ∧ a1 ≤ xs.length) (fun _ i _ => 3 - (intOf i).toNat)
  case atStart => exact ⟨0, qa, _, _, _, [], [], [], by decide, rfl, rfl, HW1, HR2, hqe.1, hqe.2⟩
  case round =>
    obtain ⟨k, a1, u6, u7, u8, l1, l2, l3, hk, rfl, rfl, HWr, HQ, ha0, ha1⟩ := hrel
    have hsr := HWr.out.sz
    match k, hk with
    | 3, _ =>
      have hq := HQ.out
      obtain ⟨rfl, rfl, rfl⟩ : ((ql, l1, l2, l3) : Bod) = bd ∧ a1 = a ∧ Er.none = er := by simpa [bodyK] using hq
      clear hq HQ HR2
      go_wp2
      go_ret2
      exact ⟨⟨_, rfl, er_none _ _ _⟩, HWr.out.st, Nat.le_of_lt hsr, HWr.out.oth, fun _ => ⟨_, _, _, _, HWr.out.blk, HWr.out.r5, HWr.out.r6, HWr.out.r7, HWr.out.r8⟩⟩
    | 0, _ =>
      obtain ⟨rl, ra, re, hrs⟩ : ∃ rl ra re, rsR xs n1 a1 [] = (rl, ra, re) := ⟨_, _, _, rfl⟩
      have hend := rsR_end xs HX.out n1 a1 [] ha0 ha1
      have hq : bodyR1 xs ql  n1 n2 n3 a1 = (bd, a, er) := HQ.out
      rw [bodyR1, hrs] at hq
      rw [hrs] at hend
      dsimp only at hq hend
      have HQ1 := Kp.mk hq
      have HRS := Kp.mk hrs
      have hcb := blk_cell HWr.out.box 1
      have hix := (run_index_ptr g wr).1
      clear hq hrs HQ HR2
      go_wp2_with (fail)
      refine g3_ (records_calls A c xs a1 n1 _ rl ra re (Kd.C_below HC.out HWr.out.st.below) HX.out hc hcm HWr.out.st.env hl ha0 (by omega) hn1 HRS.out) ⟨HWr.out.st⟩ ?_
      intro v4 v5 v6 w4 HM4 HM5 HM6 HB4 HS4
      obtain rfl : v5 = .int .i64 ra := List.singleton_inj.1 HM5.out
      obtain ⟨A4, c4, rfl⟩ := Kd.R_slice (slice_M HM4.out)
      have HR4 := Kp.mk (R_apart (b0 := w0.heap.size) (g := g) (slice_M HM4.out) HWr.out.st.size (by omega))
      have HE4 := Kp.mk (erM_apart (b0 := w0.heap.size) (g := g) HM6.out HWr.out.st.size (by omega))
      have HW4 := Kp.mk (HWr.out.step HB4.out)
      have HW5 := Kp.mk (HW4.out.put6 HR4.out hg0 hgl)
      have d6 := blk_cell HW4.out.blk 6
      have f6 := blk_frozen HW4.out.blk 6
      clear HM4 HM5 HB4 hcb hix
      by_cases g4 : re = .none
      case neg =>
        obtain ⟨T, u, rfl⟩ := er_some (erK.K_of_M HM6.out) g4
        have hq := HQ1.out
        rw [if_pos g4] at hq
        obtain ⟨rfl, rfl, rfl⟩ : (([], [], [], []) : Bod) = bd ∧ (0 : Int) = a ∧ re = er := by simpa using hq
        clear hq HQ1 HM6
        have HE5 := Kp.mk (erK.M_far (p := ⟨g, 6, none⟩) HE4.out (fun k hk => hk) (.slice A4 rl.length c4))
        go_wp2
        go_ret2
        exact ⟨⟨_, rfl, HE5.out⟩, HW5.out.st, Nat.le_of_lt HW5.out.sz, HW5.out.oth, fun h => absurd h g4⟩
      subst g4
      obtain rfl := er_open_none (erK.K_of_M HM6.out)
      have hq := HQ1.out
      rw [if_neg (by simp)] at hq
      have HQ2 : Kp (bodyK xs n1 n2 n3 ql rl l2 l3 ra 1 = (bd, a, er)) := ⟨hq⟩
      clear hq HQ1 HM6 HE4
      go_wp2
      exact ⟨⟨1, ra, _, u7, u8, rl, l2, l3, by decide, by go_num, rfl, HW5, HQ2, hend.1, hend.2⟩, by simp [intOf]⟩
    | 1, _ =>
      obtain ⟨rl, ra, re, hrs⟩ : ∃ rl ra re, rsR xs n2 a1 [] = (rl, ra, re) := ⟨_, _, _, rfl⟩
      have hend := rsR_end xs HX.out n2 a1 [] ha0 ha1
      have hq : bodyR2 xs ql l1 n2 n3 a1 = (bd, a, er) := HQ.out
      rw [bodyR2, hrs] at hq
      rw [hrs] at hend
      dsimp only at hq hend
      have HQ1 := Kp.mk hq
      have HRS := Kp.mk hrs
      have hcb := blk_cell HWr.out.box 2
      have hix := (run_index_ptr g wr).2.1
      clear hq hrs HQ HR2
      go_wp2_with (fail)
      refine g3_ (records_calls A c xs a1 n2 _ rl ra re (Kd.C_below HC.out HWr.out.st.below) HX.out hc hcm HWr.out.st.env hl ha0 (by omega) hn2 HRS.out) ⟨HWr.out.st⟩ ?_
      intro v4 v5 v6 w4 HM4 HM5 HM6 HB4 HS4
      obtain rfl : v5 = .int .i64 ra := List.singleton_inj.1 HM5.out
      obtain ⟨A4, c4, rfl⟩ := Kd.R_slice (slice_M HM4.out)
      have HR4 := Kp.mk (R_apart (b0 := w0.heap.size) (g := g) (slice_M HM4.out) HWr.out.st.size (by omega))
      have HE4 := Kp.mk (erM_apart (b0 := w0.heap.size) (g := g) HM6.out HWr.out.st.size (by omega))
      have HW4 := Kp.mk (HWr.out.step HB4.out)
      have HW5 := Kp.mk (HW4.out.put7 HR4.out hg0 hgl)
      have d6 := blk_cell HW4.out.blk 7
      have f6 := blk_frozen HW4.out.blk 7
      clear HM4 HM5 HB4 hcb hix
      by_cases g4 : re = .none
      case neg =>
        obtain ⟨T, u, rfl⟩ := er_some (erK.K_of_M HM6.out) g4
        have hq := HQ1.out
        rw [if_pos g4] at hq
        obtain ⟨rfl, rfl, rfl⟩ : (([], [], [], []) : Bod) = bd ∧ (0 : Int) = a ∧ re = er := by simpa using hq
        clear hq HQ1 HM6
        have HE5 := Kp.mk (erK.M_far (p := ⟨g, 7, none⟩) HE4.out (fun k hk => hk) (.slice A4 rl.length c4))
        go_wp2
        go_ret2
        exact ⟨⟨_, rfl, HE5.out⟩, HW5.out.st, Nat.le_of_lt HW5.out.sz, HW5.out.oth, fun h => absurd h g4⟩
      subst g4
      obtain rfl := er_open_none (erK.K_of_M HM6.out)
      have hq := HQ1.out
      rw [if_neg (by simp)] at hq
      have HQ2 : Kp (bodyK xs n1 n2 n3 ql l1 rl l3 ra 2 = (bd, a, er)) := ⟨hq⟩
      clear hq HQ1 HM6 HE4
      go_wp2
      exact ⟨⟨2, ra, u6, _, u8, l1, rl, l3, by decide, by go_num, rfl, HW5, HQ2, hend.1, hend.2⟩, by simp [intOf]⟩
    | 2, _ =>
      obtain ⟨rl, ra, re, hrs⟩ : ∃ rl ra re, rsR xs n3 a1 [] = (rl, ra, re) := ⟨_, _, _, rfl⟩
      have hend := rsR_end xs HX.out n3 a1 [] ha0 ha1
      have hq : bodyR3 xs ql l1 l2 n3 a1 = (bd, a, er) := HQ.out
      rw [bodyR3, hrs] at hq
      rw [hrs] at hend
      dsimp only at hq hend
      have HQ1 := Kp.mk hq
      have HRS := Kp.mk hrs
      have hcb := blk_cell HWr.out.box 3
      have hix := (run_index_ptr g wr).2.2
      clear hq hrs HQ HR2
      go_wp2_with (fail)
      refine g3_ (records_calls A c xs a1 n3 _ rl ra re (Kd.C_below HC.out HWr.out.st.below) HX.out hc hcm HWr.out.st.env hl ha0 (by omega) hn3 HRS.out) ⟨HWr.out.st⟩ ?_
      intro v4 v5 v6 w4 HM4 HM5 HM6 HB4 HS4
      obtain rfl : v5 = .int .i64 ra := List.singleton_inj.1 HM5.out
      obtain ⟨A4, c4, rfl⟩ := Kd.R_slice (slice_M HM4.out)
      have HR4 := Kp.mk (R_apart (b0 := w0.heap.size) (g := g) (slice_M HM4.out) HWr.out.st.size (by omega))
      have HE4 := Kp.mk (erM_apart (b0 := w0.heap.size) (g := g) HM6.out HWr.out.st.size (by omega))
      have HW4 := Kp.mk (HWr.out.step HB4.out)
      have HW5 := Kp.mk (HW4.out.put8 HR4.out hg0 hgl)
      have d6 := blk_cell HW4.out.blk 8
      have f6 := blk_frozen HW4.out.blk 8
      clear HM4 HM5 HB4 hcb hix
      by_cases g4 : re = .none
      case neg =>
        obtain ⟨T, u, rfl⟩ := er_some (erK.K_of_M HM6.out) g4
        have hq := HQ1.out
        rw [if_pos g4] at hq
        obtain ⟨rfl, rfl, rfl⟩ : (([], [], [], []) : Bod) = bd ∧ (0 : Int) = a ∧ re = er := by simpa using hq
        clear hq HQ1 HM6
        have HE5 := Kp.mk (erK.M_far (p := ⟨g, 8, none⟩) HE4.out (fun k hk => hk) (.slice A4 rl.length c4))
        go_wp2
        go_ret2
        exact ⟨⟨_, rfl, HE5.out⟩, HW5.out.st, Nat.le_of_lt HW5.out.sz, HW5.out.oth, fun h => absurd h g4⟩
      subst g4
      obtain rfl := er_open_none (erK.K_of_M HM6.out)
      have hq := HQ1.out
      rw [if_neg (by simp)] at hq
      have HQ2 : Kp (bodyK xs n1 n2 n3 ql l1 l2 rl ra 3 = (bd, a, er)) := ⟨hq⟩
      clear hq HQ1 HM6 HE4
      go_wp2
      exact ⟨⟨3, ra, u6, u7, _, l1, l2, rl, by decide, by go_num, rfl, HW5, HQ2, hend.1, hend.2⟩, by simp [intOf]⟩
end Go.Proofs.YtlkneoednkhleaaGreatDoor

namespace Go.Proofs.YtlkneoednkhleaaGreatDoor
open Go.RowKit Go.Proofs.YtlkneoednkhleaaGreatDoorW.PrintWords
set_option linter.unusedVariables false
set_option linter.unusedSimpArgs false
set_option maxRecDepth 100000
set_option maxHeartbeats 4000000

def Msg.zero : Msg := ⟨0, false, 0, 0, 0, [], [], [], []⟩
/-- A count of the head. -/
def cntM (xs : List Int) (a : Int) : Nat := (numV xs a 2).toNat
def headM (xs : List Int) (b : Bod) : Msg := ⟨numV xs 0 2, numV xs 2 2 / 32768 == 1, numV xs 2 2 / 2048 % 16, numV xs 2 2 % 16, numV xs 2 2 / 16 % 128, b.1, b.2.1, b.2.2.1, b.2.2.2⟩
/-- A message, or why there is none. -/
def parseM (xs : List Int) : Msg × Er :=
  if 4000 < xs.length then (Msg.zero, .code 4)
  else if xs.length < 12 then (Msg.zero, .fault 0 3)
  else if 64 < cntM xs 4 + cntM xs 6 + cntM xs 8 + cntM xs 10 then (Msg.zero, .fault 4 4)
  else if (bodyR xs (cntM xs 4) (cntM xs 6) (cntM xs 8) (cntM xs 10)).2.2.placed = true then (Msg.zero, (bodyR xs (cntM xs 4) (cntM xs 6) (cntM xs 8) (cntM xs 10)).2.2)
  else if (bodyR xs (cntM xs 4) (cntM xs 6) (cntM xs 8) (cntM xs 10)).2.1 ≠ xs.length then (Msg.zero, .fault (bodyR xs (cntM xs 4) (cntM xs 6) (cntM xs 8) (cntM xs 10)).2.1 7)
  else (headM xs (bodyR xs (cntM xs 4) (cntM xs 6) (cntM xs 8) (cntM xs 10)).1, .none)
abbrev msgA (m : Msg) (v5 v6 v7 v8 : Value) : Array Value := #[.int .i64 m.id, .bool m.rp, .int .i64 m.op, .int .i64 m.co, .int .i64 m.fl, v5, v6, v7, v8]
structure MsgRows (w : World) (b : Nat) (m : Msg) (v5 v6 v7 v8 : Value) : Prop where
  qs : quK.R 30 w b (fun _ => True) v5 m.qs
  an : recK.R 28 w b (fun _ => True) v6 m.an
  au : recK.R 28 w b (fun _ => True) v7 m.au
  ex : recK.R 28 w b (fun _ => True) v8 m.ex
theorem MsgRows.zero (w : World) (b : Nat) : MsgRows w b Msg.zero (.slice none 0 0) (.slice none 0 0) (.slice none 0 0) (.slice none 0 0) := ⟨Kd.R_nil _ _ _ _ _, Kd.R_nil _ _ _ _ _, Kd.R_nil _ _ _ _ _, Kd.R_nil _ _ _ _ _⟩
def MsgPost (m : Msg) (er : Er) (w : World) (e : Ending) (w' : World) : Prop :=
  ∃ v5 v6 v7 v8 v, e = .returned (.tuple #[.agg (msgA m v5 v6 v7 v8), v]) ∧ MsgRows w' w.heap.size m v5 v6 v7 v8 ∧ erK.M w' w.heap.size (fun _ => True) er [v] ∧ Below w.heap.size w w'
theorem bodyR_err (xs : List Int) (n0 n1 n2 n3 : Nat) (h : (bodyR xs n0 n1 n2 n3).2.2 ≠ .none) : (bodyR xs n0 n1 n2 n3).2.1 = 0 := by
  unfold bodyR bodyR1 bodyR2 bodyR3 at h ⊢
  split <;> rename_i h1
  · rfl
  · rw [if_neg h1] at h
    split <;> rename_i h2
    · rfl
    · rw [if_neg h2] at h
      split <;> rename_i h3
      · rfl
      · rw [if_neg h3] at h
        split <;> rename_i h4
        · rfl
        · rw [if_neg h4] at h
          exact absurd rfl h
theorem put_msg0 (W : World) (g : Nat) (hg : W.heap[g]? = some (.cells #[.int .i64 0, .bool false, .int .i64 0, .int .i64 0, .int .i64 0, .slice none 0 0, .slice none 0 0, .slice none 0 0, .slice none 0 0] 59 (0, 0))) :
    (storeCells ⟨g, 0, none⟩ [.int .i64 0, .bool false, .int .i64 0, .int .i64 0, .int .i64 0, .slice none 0 0, .slice none 0 0, .slice none 0 0, .slice none 0 0] 0).run Tryz.prog W = .ok () (W.setRow g #[.int .i64 0, .bool false, .int .i64 0, .int .i64 0, .int .i64 0, .slice none 0 0, .slice none 0 0, .slice none 0 0, .slice none 0 0]) :=
  run_storeCells_from (P := Tryz.prog) g 59 [.int .i64 0, .bool false, .int .i64 0, .int .i64 0, .int .i64 0, .slice none 0 0, .slice none 0 0, .slice none 0 0, .slice none 0 0] 0 _ W hg rfl (fun v hv => by
    simp only [List.mem_cons, List.not_mem_nil, or_false] at hv
    rcases hv with rfl | rfl | rfl | rfl | rfl | rfl | rfl | rfl | rfl <;> rfl)
def cellsC (n0 n1 n2 n3 : Int) : Nat → Array Value
  | 0 => #[.int .i64 0, .int .i64 0, .int .i64 0, .int .i64 0]
  | 1 => #[.int .i64 n0, .int .i64 0, .int .i64 0, .int .i64 0]
  | 2 => #[.int .i64 n0, .int .i64 n1, .int .i64 0, .int .i64 0]
  | 3 => #[.int .i64 n0, .int .i64 n1, .int .i64 n2, .int .i64 0]
  | _ => #[.int .i64 n0, .int .i64 n1, .int .i64 n2, .int .i64 n3]
def sumC (n0 n1 n2 n3 : Int) : Nat → Int
  | 0 => 0
  | 1 => n0
  | 2 => n0 + n1
  | 3 => n0 + n1 + n2
  | _ => n0 + n1 + n2 + n3
structure CntW (w wr : World) (g0 gm gc : Nat) (hd : Array Value) (cs : Array Value) : Prop where
  st : St w wr
  res : wr.heap[g0]? = some (.cells #[.int .i64 0, .bool false, .int .i64 0, .int .i64 0, .int .i64 0, .slice none 0 0, .slice none 0 0, .slice none 0 0, .slice none 0 0] 59 (0, 0))
  msg : wr.heap[gm]? = some (.cells hd 59 (0, 0))
  cnt : wr.heap[gc]? = some (.cells cs 120 (0, 0))
theorem CntW.step {w wr w2 : World} {g0 gm gc : Nat} {hd cs : Array Value} (h : CntW w wr g0 gm gc hd cs) (hb : Below wr.heap.size wr w2) : CntW w w2 g0 gm gc hd cs :=
  ⟨h.st.step hb, (hb.block _ (heap_lt h.res)).trans h.res, (hb.block _ (heap_lt h.msg)).trans h.msg, (hb.block _ (heap_lt h.cnt)).trans h.cnt⟩
theorem CntW.put {w wr : World} {g0 gm gc : Nat} {hd cs cs' : Array Value} (h : CntW w wr g0 gm gc hd cs) (hE : Env w) (k : Nat) (v : Value) (hc : cs.setIfInBounds k v = cs') (h0 : w.heap.size ≤ gc) (h2 : g0 ≠ gc) (h1 : gm ≠ gc) : CntW w (wr.setCell ⟨gc, k, none⟩ v) g0 gm gc hd cs' := by
  have hb : Below w.heap.size w (wr.setCell ⟨gc, k, none⟩ v) := h.st.below.setCell (p := ⟨gc, k, none⟩) h0 v
  exact ⟨⟨hb, hE.below hb⟩, (Below.heap_setCell wr ⟨gc, k, none⟩ v _ h2).trans h.res, (Below.heap_setCell wr ⟨gc, k, none⟩ v _ h1).trans h.msg, blk_put h.cnt k v hc⟩

theorem and_mask4 (v : Int) (h0 : 0 ≤ v) (h1 : v < 65536) : bits .and .i64 v 15 = v % 16 := by
  obtain ⟨n, rfl⟩ := Int.eq_ofNat_of_zero_le h0
  have h := bits_mask .i64 16 (by decide) (fun n h0 h1 => IntWalk.i64_in n (by omega)) 4 (by decide) (n : Int) (by omega) (by omega)
  simpa using h
theorem and_mask7 (v : Int) (h0 : 0 ≤ v) (h1 : v < 65536) : bits .and .i64 v 127 = v % 128 := by
  obtain ⟨n, rfl⟩ := Int.eq_ofNat_of_zero_le h0
  have h := bits_mask .i64 16 (by decide) (fun n h0 h1 => IntWalk.i64_in n (by omega)) 7 (by decide) (n : Int) (by omega) (by omega)
  simpa using h
theorem St.outer {w wr : World} {o : Obj} (h : St (w.alloc o) wr) : Below w.heap.size w wr := ((Below.refl w.heap.size w).alloc (Nat.le_refl _) o).trans (h.below.mono (by simp))
theorem parse_calls (A : Option Addr) (c : Nat) (xs : List Int) (w : World) (m : Msg) (er : Er) (h : (Kd.int .u8).C w A xs.length xs) (hx8 : Byts xs) (hc : xs.length ≤ c) (hcm : c ≤ 9223372036854775807) (hE : Env w) (hr : parseM xs = (m, er)) :
    Calls Tryz.prog 27 #[.slice A xs.length c] w (MsgPost m er w) := by
  have HS := Kp.mk (St.start (env_alloc hE (.cells #[.int .i64 0, .bool false, .int .i64 0, .int .i64 0, .int .i64 0, .slice none 0 0, .slice none 0 0, .slice none 0 0, .slice none 0 0] 59)))
  have Hg := Kp.mk (heap_new w (.cells #[.int .i64 0, .bool false, .int .i64 0, .int .i64 0, .int .i64 0, .slice none 0 0, .slice none 0 0, .slice none 0 0, .slice none 0 0] 59))
  have HL := Kp.mk (St.outer HS.out)
  have HC := Kp.mk h
  have HX := Kp.mk hx8
  have HEn := Kp.mk (env_alloc hE (.cells #[.int .i64 0, .bool false, .int .i64 0, .int .i64 0, .int .i64 0, .slice none 0 0, .slice none 0 0, .slice none 0 0, .slice none 0 0] 59))
  have hz1 : (w.alloc (.cells #[.int .i64 0, .bool false, .int .i64 0, .int .i64 0, .int .i64 0, .slice none 0 0, .slice none 0 0, .slice none 0 0, .slice none 0 0] 59)).heap.size = w.heap.size + 1 := by simp
  have HZ1 := Kp.mk hz1
  unfold parseM at hr
  by_cases g1 : 4000 < xs.length
  · rw [if_pos g1] at hr
    obtain ⟨rfl, rfl⟩ : Msg.zero = m ∧ Er.code 4 = er := by simpa using hr
    have b1 : decide ((4000 : Int) < (xs.length : Int)) = true := by simp; omega
    clear h hx8 hE hr g1 hz1
    go_enter Tryz.func27, Tryz.ntmps27
    go_wp2_with (with_reducible refine st_blk (w0 := w) (base := w.heap.size) rfl 59 (.tmp 2) (.tmp 19) rfl rfl w.heap.size _ rfl rfl Hg (by kernel_rfl) (by kernel_rfl) (by kernel_rfl) HL (Nat.le_refl _) ?_)
    intro w1 Hg1 HO1 HB1 hs1
    go_wp2
    refine bodyPost_ret (results_ct rfl _ _ w.heap.size _ _ (0, 0) _ rfl Hg1.out Tryz.underlying59 rfl (by kernel_rfl)) rfl ?_
    exact ⟨_, _, _, _, _, rfl, MsgRows.zero _ _, er_code _ _ _ _, HB1.out⟩
  rw [if_neg g1] at hr
  have b1 : decide ((4000 : Int) < (xs.length : Int)) = false := by simp; omega
  by_cases g2 : xs.length < 12
  · rw [if_pos g2] at hr
    obtain ⟨rfl, rfl⟩ : Msg.zero = m ∧ Er.fault 0 3 = er := by simpa using hr
    have b2 : decide ((xs.length : Int) < 12) = true := by simp; omega
    clear h hx8 hE hr g1 g2 hz1
    go_enter Tryz.func27, Tryz.ntmps27
    go_wp2_with (fail)
    refine g_ (wrap_gives 0 3 _) HS ?_
    intro v1 w1 HM1 HB1 HS1
    obtain ⟨p1, rfl, -⟩ := er_open_fault (erK.K_of_M HM1.out)
    have Hg1 := Kp.mk ((HB1.out.block _ (heap_lt Hg.out)).trans Hg.out)
    have HL1 := Kp.mk (St.outer HS1.out)
    go_wp2_with (with_reducible refine st_blk (w0 := w) (base := w.heap.size) rfl 59 (.tmp 2) (.tmp 25) rfl rfl w.heap.size _ rfl rfl Hg1 (by kernel_rfl) (by kernel_rfl) (by kernel_rfl) HL1 (Nat.le_refl _) ?_)
    intro w2 Hg2 HO2 HB2 hs2
    go_wp2
    refine bodyPost_ret (results_ct rfl _ _ w.heap.size _ _ (0, 0) _ rfl Hg2.out Tryz.underlying59 rfl (by kernel_rfl)) rfl ?_
    exact ⟨_, _, _, _, _, rfl, MsgRows.zero _ _, erK.M_lower (by rw [HZ1.out]; omega) (M_stored HM1.out (by rw [HZ1.out]; omega) HO2.out), HB2.out⟩
  rw [if_neg g2] at hr
  have b2 : decide ((xs.length : Int) < 12) = false := by simp; omega
  have hl : xs.length ≤ 140737488355328 := by omega
  have HU : Kp (∀ (a : Int) (W : World), -9223372036854775808 ≤ a → a ≤ 9223372036854775807 → (Kd.int .u8).C W A xs.length xs → Env W → Calls Tryz.prog 41 #[.slice A xs.length c, .int .i64 a] W (Gives2 (Kd.int .i64) erK (numV xs a 2) (partE xs.length a 2) W)) := ⟨fun a W h1 h2 hC hE => u16_calls A c xs a W hC hx8 hc hcm hE hl h1 h2⟩
  have r0 := u16_range xs 4 hx8
  have r1 := u16_range xs 6 hx8
  have r2 := u16_range xs 8 hx8
  have r3 := u16_range xs 10 hx8
  have rf := u16_range xs 2 hx8
  obtain ⟨n0, hn0⟩ : ∃ n : Nat, cntM xs 4 = n := ⟨_, rfl⟩
  obtain ⟨n1, hn1⟩ : ∃ n : Nat, cntM xs 6 = n := ⟨_, rfl⟩
  obtain ⟨n2, hn2⟩ : ∃ n : Nat, cntM xs 8 = n := ⟨_, rfl⟩
  obtain ⟨n3, hn3⟩ : ∃ n : Nat, cntM xs 10 = n := ⟨_, rfl⟩
  have e0 : numV xs 4 2 = n0 := by rw [← hn0]; unfold cntM; omega
  have e1 : numV xs 6 2 = n1 := by rw [← hn1]; unfold cntM; omega
  have e2 : numV xs 8 2 = n2 := by rw [← hn2]; unfold cntM; omega
  have e3 : numV xs 10 2 = n3 := by rw [← hn3]; unfold cntM; omega
  have k0 : n0 ≤ 65535 := by omega
  have k1 : n1 ≤ 65535 := by omega
  have k2 : n2 ≤ 65535 := by omega
  have k3 : n3 ≤ 65535 := by omega
  have HU0 := Kp.mk (HU.out 4)
  have HU1 := Kp.mk (HU.out 6)
  have HU2 := Kp.mk (HU.out 8)
  have HU3 := Kp.mk (HU.out 10)
  rw [e0] at HU0
  rw [e1] at HU1
  rw [e2] at HU2
  rw [e3] at HU3
  rw [hn0, hn1, hn2, hn3] at hr
  unfold headM at hr
  obtain ⟨id, hid⟩ : ∃ v, numV xs 0 2 = v := ⟨_, rfl⟩
  obtain ⟨f, hf⟩ : ∃ v, numV xs 2 2 = v := ⟨_, rfl⟩
  have HUi := Kp.mk (HU.out 0)
  have HUf := Kp.mk (HU.out 2)
  rw [hid] at HUi hr
  rw [hf] at HUf hr rf
  have HR := Kp.mk hr
  have H12 : Kp (12 ≤ xs.length) := ⟨by omega⟩
  obtain ⟨rf0, rf1⟩ := rf
  clear h hx8 hE hr g1 g2 hz1 r0 r1 r2 r3 hn0 hn1 hn2 hn3 e0 e1 e2 e3 hid hf HU
  go_enter Tryz.func27, Tryz.ntmps27
  go_wp2_with (fail)
  refine g2_ (HUi.out _ (by decide) (by decide) (Kd.C_below HC.out (St.outer HS.out)) HS.out.env) HS ?_
  intro v1 v1e w1 HM1 HM1e HB1 HS1
  obtain rfl : v1 = .int .i64 id := List.singleton_inj.1 HM1.out
  have Hg1 := Kp.mk ((HB1.out.block _ (heap_lt Hg.out)).trans Hg.out)
  go_wp2_with (fail)
  refine g2_ (HUf.out _ (by decide) (by decide) (Kd.C_below HC.out (St.outer HS1.out)) HS1.out.env) HS1 ?_
  intro v2 v2e w2 HM2 HM2e HB2 HS2
  obtain rfl : v2 = .int .i64 f := List.singleton_inj.1 HM2.out
  have Hg2 := Kp.mk ((HB2.out.block _ (heap_lt Hg1.out)).trans Hg1.out)
  have HZ2 := Kp.mk (HS2.out.below.alloc HS2.out.size (.cells #[.int .i64 0, .bool false, .int .i64 0, .int .i64 0, .int .i64 0, .slice none 0 0, .slice none 0 0, .slice none 0 0, .slice none 0 0] 59))
  clear HM1 HM1e HB1 HM2 HM2e HB2 Hg Hg1
  go_wp2_with (with_reducible refine st_blk (w0 := w.alloc (.cells #[.int .i64 0, .bool false, .int .i64 0, .int .i64 0, .int .i64 0, .slice none 0 0, .slice none 0 0, .slice none 0 0, .slice none 0 0] 59)) (base := (w.alloc (.cells #[.int .i64 0, .bool false, .int .i64 0, .int .i64 0, .int .i64 0, .slice none 0 0, .slice none 0 0, .slice none 0 0, .slice none 0 0] 59)).heap.size) rfl 59 (.tmp 8) (.tmp 50) rfl rfl w2.heap.size _ rfl rfl ⟨heap_new _ _⟩ (by kernel_rfl) (by kernel_rfl) (by kernel_rfl) HZ2 HS2.out.size ?_)
  intro w3 Hm3 HO3 HB3 hs3
  have a1 : bits .and .i64 (f / 2048) 15 = f / 2048 % 16 := and_mask4 _ (by omega) (by omega)
  have a2 : bits .and .i64 f 15 = f % 16 := and_mask4 _ (by omega) (by omega)
  have a3 : bits .and .i64 (f / 16) 127 = f / 16 % 128 := and_mask7 _ (by omega) (by omega)
  rw [a1, a2, a3] at Hm3
  obtain ⟨rp, hrp⟩ : ∃ b, (f / 32768 == 1) = b := ⟨_, rfl⟩
  obtain ⟨op, hop⟩ : ∃ b, f / 2048 % 16 = b := ⟨_, rfl⟩
  obtain ⟨co, hco⟩ : ∃ b, f % 16 = b := ⟨_, rfl⟩
  obtain ⟨fl, hfl⟩ : ∃ b, f / 16 % 128 = b := ⟨_, rfl⟩
  have hr := HR.out
  rw [hrp, hop, hco, hfl] at hr Hm3
  have HR2 := Kp.mk hr
  have hB23 := stored_new HS2.out.below HB3.out hs3 HO3.out
  have HS3 := Kp.mk (HS2.out.step hB23)
  have Hg3 := Kp.mk ((hB23.block _ (heap_lt Hg2.out)).trans Hg2.out)
  have hlt1 : w.heap.size < w2.heap.size := heap_lt Hg2.out
  have hlt2 : w2.heap.size < w3.heap.size := heap_lt Hm3.out
  have hal := (Below.refl w3.heap.size w3).alloc (Nat.le_refl _) (.cells (cellsC n0 n1 n2 n3 0) 120)
  have HCW : Kp (CntW (w.alloc (.cells #[.int .i64 0, .bool false, .int .i64 0, .int .i64 0, .int .i64 0, .slice none 0 0, .slice none 0 0, .slice none 0 0, .slice none 0 0] 59)) (w3.alloc (.cells (cellsC n0 n1 n2 n3 0) 120)) w.heap.size w2.heap.size w3.heap.size #[.int .i64 id, .bool rp, .int .i64 op, .int .i64 co, .int .i64 fl, .slice none 0 0, .slice none 0 0, .slice none 0 0, .slice none 0 0] (cellsC n0 n1 n2 n3 0)) := ⟨HS3.out.step hal, (hal.block _ (heap_lt Hg3.out)).trans Hg3.out, (hal.block _ (heap_lt Hm3.out)).trans Hm3.out, heap_new _ _⟩
  clear a1 a2 a3 hrp hop hco hfl hr HR hB23 Hg2 Hg3 Hm3 HO3 HB3 hs3 hal HS3 HZ2
  generalize hgm : w2.heap.size = gm at *
  generalize hgc : w3.heap.size = gc at *
  go_wp2_with (fail)
  go_loopw [10, 51] (fun al i wr => ∃ k : Nat, k ≤ 4 ∧ i = .int .i64 k ∧ al = .int .i64 (sumC n0 n1 n2 n3 k) ∧ Kp (CntW (w.alloc (.cells #[.int .i64 0, .bool false, .int .i64 0, .int .i64 0, .int .i64 0, .slice none 0 0, .slice none 0 0, .slice none 0 0, .slice none 0 0] 59)) wr w.heap.size gm gc #[.int .i64 id, .bool rp, .int .i64 op, .int .i64 co, .int .i64 fl, .slice none 0 0, .slice none 0 0, .slice none 0 0, .slice none 0 0] (cellsC n0 n1 n2 n3 k))) (fun _ i _ => 4 - (intOf i).toNat)
  case atStart => exact ⟨0, by decide, rfl, rfl, HCW⟩
  case round =>
    obtain ⟨k, hk, rfl, rfl, HWr⟩ := hrel
    match k, hk with
    | 0, _ =>
      clear HR2 HCW HL
      rw [show sumC (n0 : Int) n1 n2 n3 0 = 0 from rfl]
      go_wp2_with (fail)
      refine g2_ (HU0.out _ (by decide) (by decide) (Kd.C_below HC.out (St.outer HWr.out.st)) HWr.out.st.env) ⟨HWr.out.st⟩ ?_
      intro v4 v4e w4 HM4 HM4e HB4 HS4
      obtain rfl : v4 = .int .i64 n0 := List.singleton_inj.1 HM4.out
      have HW4 := Kp.mk (HWr.out.step HB4.out)
      have HW5 : Kp (CntW (w.alloc (.cells #[.int .i64 0, .bool false, .int .i64 0, .int .i64 0, .int .i64 0, .slice none 0 0, .slice none 0 0, .slice none 0 0, .slice none 0 0] 59)) (w4.setCell ⟨gc, 0, none⟩ (.int .i64 n0)) w.heap.size gm gc #[.int .i64 id, .bool rp, .int .i64 op, .int .i64 co, .int .i64 fl, .slice none 0 0, .slice none 0 0, .slice none 0 0, .slice none 0 0] (cellsC n0 n1 n2 n3 1)) := ⟨HW4.out.put HEn.out 0 (.int .i64 n0) rfl (by rw [HZ1.out]; omega) (by omega) (by omega)⟩
      have d4 : w4.cell? ⟨gc, 0, none⟩ = some (.int .i64 0) := blk_cell HW4.out.cnt 0
      have f4 := blk_frozen HW4.out.cnt 0
      obtain ⟨W5, hW5⟩ : ∃ W5, w4.setCell ⟨gc, 0, none⟩ (.int .i64 n0) = W5 := ⟨_, rfl⟩
      rw [hW5] at HW5
      have d5 : W5.cell? ⟨gc, 0, none⟩ = some (.int .i64 n0) := blk_cell HW5.out.cnt 0
      clear HM4 HM4e HB4 HW4
      go_wp2
      exact ⟨⟨1, by decide, by go_num, by simp [sumC], HW5⟩, by simp [intOf]⟩
    | 1, _ =>
      clear HR2 HCW HL
      rw [show sumC (n0 : Int) n1 n2 n3 1 = (n0 : Int) from rfl]
      go_wp2_with (fail)
      refine g2_ (HU1.out _ (by decide) (by decide) (Kd.C_below HC.out (St.outer HWr.out.st)) HWr.out.st.env) ⟨HWr.out.st⟩ ?_
      intro v4 v4e w4 HM4 HM4e HB4 HS4
      obtain rfl : v4 = .int .i64 n1 := List.singleton_inj.1 HM4.out
      have HW4 := Kp.mk (HWr.out.step HB4.out)
      have HW5 : Kp (CntW (w.alloc (.cells #[.int .i64 0, .bool false, .int .i64 0, .int .i64 0, .int .i64 0, .slice none 0 0, .slice none 0 0, .slice none 0 0, .slice none 0 0] 59)) (w4.setCell ⟨gc, 1, none⟩ (.int .i64 n1)) w.heap.size gm gc #[.int .i64 id, .bool rp, .int .i64 op, .int .i64 co, .int .i64 fl, .slice none 0 0, .slice none 0 0, .slice none 0 0, .slice none 0 0] (cellsC n0 n1 n2 n3 2)) := ⟨HW4.out.put HEn.out 1 (.int .i64 n1) rfl (by rw [HZ1.out]; omega) (by omega) (by omega)⟩
      have d4 : w4.cell? ⟨gc, 1, none⟩ = some (.int .i64 0) := blk_cell HW4.out.cnt 1
      have f4 := blk_frozen HW4.out.cnt 1
      obtain ⟨W5, hW5⟩ : ∃ W5, w4.setCell ⟨gc, 1, none⟩ (.int .i64 n1) = W5 := ⟨_, rfl⟩
      rw [hW5] at HW5
      have d5 : W5.cell? ⟨gc, 1, none⟩ = some (.int .i64 n1) := blk_cell HW5.out.cnt 1
      clear HM4 HM4e HB4 HW4
      go_wp2
      exact ⟨⟨2, by decide, by go_num, by simp [sumC], HW5⟩, by simp [intOf]⟩
    | 2, _ =>
      clear HR2 HCW HL
      rw [show sumC (n0 : Int) n1 n2 n3 2 = (n0 : Int) + n1 from rfl]
      go_wp2_with (fail)
      refine g2_ (HU2.out _ (by decide) (by decide) (Kd.C_below HC.out (St.outer HWr.out.st)) HWr.out.st.env) ⟨HWr.out.st⟩ ?_
      intro v4 v4e w4 HM4 HM4e HB4 HS4
      obtain rfl : v4 = .int .i64 n2 := List.singleton_inj.1 HM4.out
      have HW4 := Kp.mk (HWr.out.step HB4.out)
      have HW5 : Kp (CntW (w.alloc (.cells #[.int .i64 0, .bool false, .int .i64 0, .int .i64 0, .int .i64 0, .slice none 0 0, .slice none 0 0, .slice none 0 0, .slice none 0 0] 59)) (w4.setCell ⟨gc, 2, none⟩ (.int .i64 n2)) w.heap.size gm gc #[.int .i64 id, .bool rp, .int .i64 op, .int .i64 co, .int .i64 fl, .slice none 0 0, .slice none 0 0, .slice none 0 0, .slice none 0 0] (cellsC n0 n1 n2 n3 3)) := ⟨HW4.out.put HEn.out 2 (.int .i64 n2) rfl (by rw [HZ1.out]; omega) (by omega) (by omega)⟩
      have d4 : w4.cell? ⟨gc, 2, none⟩ = some (.int .i64 0) := blk_cell HW4.out.cnt 2
      have f4 := blk_frozen HW4.out.cnt 2
      obtain ⟨W5, hW5⟩ : ∃ W5, w4.setCell ⟨gc, 2, none⟩ (.int .i64 n2) = W5 := ⟨_, rfl⟩
      rw [hW5] at HW5
      have d5 : W5.cell? ⟨gc, 2, none⟩ = some (.int .i64 n2) := blk_cell HW5.out.cnt 2
      clear HM4 HM4e HB4 HW4
      go_wp2
      exact ⟨⟨3, by decide, by go_num, by simp [sumC], HW5⟩, by simp [intOf]⟩
    | 3, _ =>
      clear HR2 HCW HL
      rw [show sumC (n0 : Int) n1 n2 n3 3 = (n0 : Int) + n1 + n2 from rfl]
      go_wp2_with (fail)
      refine g2_ (HU3.out _ (by decide) (by decide) (Kd.C_below HC.out (St.outer HWr.out.st)) HWr.out.st.env) ⟨HWr.out.st⟩ ?_
      intro v4 v4e w4 HM4 HM4e HB4 HS4
      obtain rfl : v4 = .int .i64 n3 := List.singleton_inj.1 HM4.out
      have HW4 := Kp.mk (HWr.out.step HB4.out)
      have HW5 : Kp (CntW (w.alloc (.cells #[.int .i64 0, .bool false, .int .i64 0, .int .i64 0, .int .i64 0, .slice none 0 0, .slice none 0 0, .slice none 0 0, .slice none 0 0] 59)) (w4.setCell ⟨gc, 3, none⟩ (.int .i64 n3)) w.heap.size gm gc #[.int .i64 id, .bool rp, .int .i64 op, .int .i64 co, .int .i64 fl, .slice none 0 0, .slice none 0 0, .slice none 0 0, .slice none 0 0] (cellsC n0 n1 n2 n3 4)) := ⟨HW4.out.put HEn.out 3 (.int .i64 n3) rfl (by rw [HZ1.out]; omega) (by omega) (by omega)⟩
      have d4 : w4.cell? ⟨gc, 3, none⟩ = some (.int .i64 0) := blk_cell HW4.out.cnt 3
      have f4 := blk_frozen HW4.out.cnt 3
      obtain ⟨W5, hW5⟩ : ∃ W5, w4.setCell ⟨gc, 3, none⟩ (.int .i64 n3) = W5 := ⟨_, rfl⟩
      rw [hW5] at HW5
      have d5 : W5.cell? ⟨gc, 3, none⟩ = some (.int .i64 n3) := blk_cell HW5.out.cnt 3
      clear HM4 HM4e HB4 HW4
      go_wp2
      exact ⟨⟨4, by decide, by go_num, by simp [sumC], HW5⟩, by simp [intOf]⟩
    | 4, _ =>
      have HW : Kp (CntW (w.alloc (.cells #[.int .i64 0, .bool false, .int .i64 0, .int .i64 0, .int .i64 0, .slice none 0 0, .slice none 0 0, .slice none 0 0, .slice none 0 0] 59)) wr w.heap.size gm gc #[.int .i64 id, .bool rp, .int .i64 op, .int .i64 co, .int .i64 fl, .slice none 0 0, .slice none 0 0, .slice none 0 0, .slice none 0 0] #[.int .i64 n0, .int .i64 n1, .int .i64 n2, .int .i64 n3]) := HWr
      have hs4 : sumC n0 n1 n2 n3 4 = ((n0 + n1 + n2 + n3 : Nat) : Int) := by simp [sumC]
      obtain ⟨z, hz⟩ : ∃ z, n0 + n1 + n2 + n3 = z := ⟨_, rfl⟩
      have hr := HR2.out
      rw [hz] at hs4 hr
      rw [hs4]
      have HZ := Kp.mk hz
      clear HR2 HCW HWr hs4 hz HU0 HU1 HU2 HU3 HUi HUf HL
      by_cases g3 : 64 < z
      · rw [if_pos g3] at hr
        obtain ⟨rfl, rfl⟩ : Msg.zero = m ∧ Er.fault 4 4 = er := by simpa using hr
        have b3 : decide ((64 : Int) < (z : Int)) = true := by simp; omega
        clear hr
        go_wp2_with (fail)
        refine g_ (wrap_gives 4 4 _) ⟨HW.out.st⟩ ?_
        intro v5 w5 HM5 HB5 HS5
        obtain ⟨p5, rfl, -⟩ := er_open_fault (erK.K_of_M HM5.out)
        have Hg5 := Kp.mk ((HB5.out.block _ (heap_lt HW.out.res)).trans HW.out.res)
        have HL5 := Kp.mk (St.outer HS5.out)
        go_wp2_with (with_reducible refine st_blk (w0 := w) (base := w.heap.size) rfl 59 (.tmp 2) (.tmp 72) rfl rfl w.heap.size _ rfl rfl Hg5 (by kernel_rfl) (by kernel_rfl) (by kernel_rfl) HL5 (Nat.le_refl _) ?_)
        intro w6 Hg6 HO6 HB6 hs6
        go_wp2
        refine bodyPost_ret (results_ct rfl _ _ w.heap.size _ _ (0, 0) _ rfl Hg6.out Tryz.underlying59 rfl (by kernel_rfl)) rfl ?_
        exact ⟨_, _, _, _, _, rfl, MsgRows.zero _ _, erK.M_lower (Nat.le_of_lt (heap_lt HW.out.res)) (M_stored HM5.out (heap_lt HW.out.res) HO6.out), HB6.out⟩
      rw [if_neg g3] at hr
      have b3 : decide ((64 : Int) < (z : Int)) = false := by simp; omega
      obtain ⟨bd, ba, be, hb⟩ : ∃ bd ba be, bodyR xs n0 n1 n2 n3 = (bd, ba, be) := ⟨_, _, _, rfl⟩
      have hbe := bodyR_err xs n0 n1 n2 n3
      rw [hb] at hr hbe
      dsimp only at hr hbe
      have HBR := Kp.mk hb
      have HBE := Kp.mk hbe
      have HR3 := Kp.mk hr
      clear hr hb hbe
      go_wp2_with (with_reducible refine ld_blk rfl 120 (.tmp 9) rfl gc rfl ⟨HW.out.cnt⟩ Tryz.underlying120 rfl (by kernel_rfl) ?_)
      refine (body_calls A c xs gm n0 n1 n2 n3 id rp op co fl (w.alloc (.cells #[.int .i64 0, .bool false, .int .i64 0, .int .i64 0, .int .i64 0, .slice none 0 0, .slice none 0 0, .slice none 0 0, .slice none 0 0] 59)) _ bd ba be (Kd.C_below HC.out (St.outer HS.out)) HX.out hc hcm HW.out.st HEn.out hl H12.out (by rw [HZ1.out]; omega) HW.out.msg (by omega) (by omega) (by omega) (by omega) HBR.out).mono ?_
      rintro e5 w5 ⟨⟨v5, rfl, hM5⟩, hSt5, hsz5, hO5, hok5⟩
      have HS5 := Kp.mk (hSt5.alloc (.cells #[.pointer none] 110))
      have HSt5 := Kp.mk hSt5
      have HM5 := Kp.mk hM5
      have HOK := Kp.mk hok5
      have hwr := heap_lt HW.out.res
      have Hg5 := Kp.mk ((hO5 w.heap.size hwr (by omega)).trans HW.out.res)
      have HT := Kp.mk HS5.out.env.errT
      clear hM5 hSt5 hO5 hok5
      rcases be with _ | cc | ⟨fa, fc⟩
      · obtain rfl := er_open_none (erK.K_of_M HM5.out)
        have hr := HR3.out
        rw [if_neg (show ¬ Er.none.placed = true by decide)] at hr
        have Hg6 := Kp.mk (show (w5.alloc (.cells #[.pointer none] 110)).heap[w.heap.size]? = some (.cells #[.int .i64 0, .bool false, .int .i64 0, .int .i64 0, .int .i64 0, .slice none 0 0, .slice none 0 0, .slice none 0 0, .slice none 0 0] 59 (0, 0)) from ((Below.refl w5.heap.size w5).alloc (Nat.le_refl _) _).block _ (heap_lt Hg5.out) |>.trans Hg5.out)
        by_cases g5 : ba = xs.length
        case neg =>
          rw [if_pos g5] at hr
          obtain ⟨rfl, rfl⟩ : Msg.zero = m ∧ Er.fault ba 7 = er := by simpa using hr
          have bq : (ba != (xs.length : Int)) = true := by simpa using g5
          clear hr
          go_wp2_with (go_at_call 58; refine (as_nil _ _).mono ?_; rintro e6 w6 ⟨rfl, rfl⟩)
          refine g_ (wrap_gives ba 7 _) HS5 ?_
          intro v7 w7 HM7 HB7 HS7
          obtain ⟨p7, rfl, -⟩ := er_open_fault (erK.K_of_M HM7.out)
          have Hg7 := Kp.mk ((HB7.out.block _ (heap_lt Hg6.out)).trans Hg6.out)
          have HL7 := Kp.mk (St.outer HS7.out)
          go_wp2_with (with_reducible refine st_blk (w0 := w) (base := w.heap.size) rfl 59 (.tmp 2) (.tmp 93) rfl rfl w.heap.size _ rfl rfl Hg7 (by kernel_rfl) (by kernel_rfl) (by kernel_rfl) HL7 (Nat.le_refl _) ?_)
          intro w8 Hg8 HO8 HB8 hs8
          go_wp2
          refine bodyPost_ret (results_ct rfl _ _ w.heap.size _ _ (0, 0) _ rfl Hg8.out Tryz.underlying59 rfl (by kernel_rfl)) rfl ?_
          exact ⟨_, _, _, _, _, rfl, MsgRows.zero _ _, erK.M_lower (Nat.le_of_lt (heap_lt Hg6.out)) (M_stored HM7.out (heap_lt Hg6.out) HO8.out), HB8.out⟩
        rw [if_neg (by simpa using g5)] at hr
        obtain ⟨rfl, rfl⟩ : (⟨id, rp, op, co, fl, bd.1, bd.2.1, bd.2.2.1, bd.2.2.2⟩ : Msg) = m ∧ Er.none = er := by simpa using hr
        subst g5
        clear hr
        obtain ⟨v5, v6, v7, v8, hmb, h5, h6, h7, h8⟩ := HOK.out rfl
        obtain ⟨A5, c5, rfl⟩ := Kd.R_slice h5
        obtain ⟨A6, c6, rfl⟩ := Kd.R_slice h6
        obtain ⟨A7, c7, rfl⟩ := Kd.R_slice h7
        obtain ⟨A8, c8, rfl⟩ := Kd.R_slice h8
        have hal := (Below.refl w5.heap.size w5).alloc (Nat.le_refl _) (.cells #[.pointer none] 110)
        have Hm6 := Kp.mk ((hal.block _ (heap_lt hmb)).trans hmb)
        have HR5 := Kp.mk (Kd.R_below h5 hal)
        have HR6 := Kp.mk (Kd.R_below h6 hal)
        have HR7 := Kp.mk (Kd.R_below h7 hal)
        have HR8 := Kp.mk (Kd.R_below h8 hal)
        have HL6 := Kp.mk (St.outer HS5.out)
        have hlt6 : w.heap.size < (w.alloc (.cells #[.int .i64 0, .bool false, .int .i64 0, .int .i64 0, .int .i64 0, .slice none 0 0, .slice none 0 0, .slice none 0 0, .slice none 0 0] 59)).heap.size := by rw [HZ1.out]; omega
        have HLT := Kp.mk hlt6
        clear hmb h5 h6 h7 h8 hal hlt6
        go_wp2_with (first
          | (go_at_call 58; refine (as_nil _ _).mono ?_; rintro e6 w6 ⟨rfl, rfl⟩)
          | (with_reducible refine ld_blk rfl 59 (.tmp 8) rfl gm rfl Hm6 Tryz.underlying59 rfl (by kernel_rfl) ?_)
          | (with_reducible refine st_blk (w0 := w) (base := w.heap.size) rfl 59 (.tmp 2) (.tmp 97) rfl rfl w.heap.size _ rfl rfl Hg6 (by kernel_rfl) (by kernel_rfl) (by kernel_rfl) HL6 (Nat.le_refl _) ?_))
        intro w8 Hg8 HO8 HB8 hs8
        go_wp2
        refine bodyPost_ret (results_ct rfl _ _ w.heap.size _ _ (0, 0) _ rfl Hg8.out Tryz.underlying59 rfl (by kernel_rfl)) rfl ?_
        exact ⟨_, _, _, _, _, rfl, ⟨Kd.R_lower (R_stored (Kd.R_mono HR5.out (fun _ _ => trivial)) HLT.out HO8.out) (Nat.le_of_lt HLT.out), Kd.R_lower (R_stored (Kd.R_mono HR6.out (fun _ _ => trivial)) HLT.out HO8.out) (Nat.le_of_lt HLT.out), Kd.R_lower (R_stored (Kd.R_mono HR7.out (fun _ _ => trivial)) HLT.out HO8.out) (Nat.le_of_lt HLT.out), Kd.R_lower (R_stored (Kd.R_mono HR8.out (fun _ _ => trivial)) HLT.out HO8.out) (Nat.le_of_lt HLT.out)⟩, er_none _ _ _, HB8.out⟩
      · obtain rfl := er_open_code (erK.K_of_M HM5.out)
        have hr := HR3.out
        rw [if_neg (show ¬ (Er.code cc).placed = true by simp [Er.placed])] at hr
        have g5 : ba ≠ xs.length := by rw [HBE.out (by simp)]; have := H12.out; omega
        rw [if_pos g5] at hr
        obtain ⟨rfl, rfl⟩ : Msg.zero = m ∧ Er.fault ba 7 = er := by simpa using hr
        have bq : (ba != (xs.length : Int)) = true := by simpa using g5
        clear hr
        go_wp2_with (fail)
        refine (as_ef cc ⟨w5.heap.size, 0, none⟩ (.pointer none) _ HT.out (by simp) (by simp)).mono ?_
        rintro e6 w6 ⟨rfl, hb⟩
        have HW6 := Kp.mk (HS5.out.step hb)
        have hal := (Below.refl w5.heap.size w5).alloc (Nat.le_refl _) (.cells #[.pointer none] 110)
        have Hg6 := Kp.mk ((hb.block _ (heap_lt ((hal.block _ (heap_lt Hg5.out)).trans Hg5.out))).trans ((hal.block _ (heap_lt Hg5.out)).trans Hg5.out))
        clear hb hal
        go_wp2_with (fail)
        refine g_ (wrap_gives ba 7 _) HW6 ?_
        intro v7 w7 HM7 HB7 HS7
        obtain ⟨p7, rfl, -⟩ := er_open_fault (erK.K_of_M HM7.out)
        have Hg7 := Kp.mk ((HB7.out.block _ (heap_lt Hg6.out)).trans Hg6.out)
        have HL7 := Kp.mk (St.outer HS7.out)
        go_wp2_with (with_reducible refine st_blk (w0 := w) (base := w.heap.size) rfl 59 (.tmp 2) (.tmp 93) rfl rfl w.heap.size _ rfl rfl Hg7 (by kernel_rfl) (by kernel_rfl) (by kernel_rfl) HL7 (Nat.le_refl _) ?_)
        intro w8 Hg8 HO8 HB8 hs8
        go_wp2
        refine bodyPost_ret (results_ct rfl _ _ w.heap.size _ _ (0, 0) _ rfl Hg8.out Tryz.underlying59 rfl (by kernel_rfl)) rfl ?_
        exact ⟨_, _, _, _, _, rfl, MsgRows.zero _ _, erK.M_lower (Nat.le_of_lt (heap_lt Hg6.out)) (M_stored HM7.out (heap_lt Hg6.out) HO8.out), HB8.out⟩
      · obtain ⟨p, rfl, hp⟩ := er_open_fault (erK.K_of_M HM5.out)
        have hr := HR3.out
        rw [if_pos (show (Er.fault fa fc).placed = true from rfl)] at hr
        obtain ⟨rfl, rfl⟩ : Msg.zero = m ∧ Er.fault fa fc = er := by simpa using hr
        clear hr
        go_wp2_with (fail)
        refine (as_ff p ⟨w5.heap.size, 0, none⟩ (.pointer none) _ HT.out (by simp) (by simp)).mono ?_
        rintro e6 w6 ⟨rfl, w7, hb, rfl⟩
        obtain ⟨hc6, hB6⟩ := hit_cell hb (.pointer (some ⟨p, 0, none⟩))
        obtain ⟨W6, hW6⟩ : ∃ W6, w7.setCell ⟨w5.heap.size, 0, none⟩ (.pointer (some ⟨p, 0, none⟩)) = W6 := ⟨_, rfl⟩
        rw [hW6] at hc6 hB6 ⊢
        have HS6 := Kp.mk (HSt5.out.step hB6)
        have Hg6 := Kp.mk ((hB6.block _ (heap_lt Hg5.out)).trans Hg5.out)
        have HM6 := Kp.mk (erK.M_below HM5.out hB6)
        have F6 := Kp.mk hc6
        have HL6 := Kp.mk (St.outer HS6.out)
        clear hb hW6 hB6
        go_wp2_with (fail)
        obtain ⟨X, hX, hXr⟩ : ∃ X : Addr → List Value → Nat → Sem Unit, (∀ p l, storeCells p l 0 = X p l 0) ∧ (X ⟨w.heap.size, 0, none⟩ [.int .i64 0, .bool false, .int .i64 0, .int .i64 0, .int .i64 0, .slice none 0 0, .slice none 0 0, .slice none 0 0, .slice none 0 0] 0).run Tryz.prog W6.drew = .ok () (W6.drew.setRow w.heap.size #[.int .i64 0, .bool false, .int .i64 0, .int .i64 0, .int .i64 0, .slice none 0 0, .slice none 0 0, .slice none 0 0, .slice none 0 0]) := ⟨fun a l i => storeCells a l i, fun _ _ => rfl, put_msg0 W6.drew _ Hg6.out⟩
        have hne : w5.heap.size ≠ w.heap.size := by omega
        go_region_held3 (fun w' => w'.cell? ⟨w5.heap.size, 0, none⟩ = some (.pointer (some ⟨p, 0, none⟩))) (first | exact F6.out | exact (cell_setRow_other _ _ _ _ hne).trans F6.out) (fail)
        clear hX hXr
        have hHg := setRow_heap W6.drew w.heap.size _ #[.int .i64 0, .bool false, .int .i64 0, .int .i64 0, .int .i64 0, .slice none 0 0, .slice none 0 0, .slice none 0 0, .slice none 0 0] _ _ Hg6.out
        have hHB : Below w.heap.size w (W6.drew.setRow w.heap.size #[.int .i64 0, .bool false, .int .i64 0, .int .i64 0, .int .i64 0, .slice none 0 0, .slice none 0 0, .slice none 0 0, .slice none 0 0]) := ⟨HL6.out.os, HL6.out.tape, HL6.out.output, by rw [size_setRow]; exact HL6.out.size, fun k hk => (setRow_other W6.drew _ k _ (by omega)).trans (HL6.out.block k hk)⟩
        have hHM : erK.M (W6.drew.setRow w.heap.size #[.int .i64 0, .bool false, .int .i64 0, .int .i64 0, .int .i64 0, .slice none 0 0, .slice none 0 0, .slice none 0 0, .slice none 0 0]) w.heap.size (fun _ => True) (.fault fa fc) [.iface 110 (.pointer (some ⟨p, 0, none⟩))] := erK.M_lower (by rw [HZ1.out]; omega) (erK.M_mono (fun _ _ => trivial) (M_stored (w := W6) (w' := W6.drew.setRow w.heap.size #[.int .i64 0, .bool false, .int .i64 0, .int .i64 0, .int .i64 0, .slice none 0 0, .slice none 0 0, .slice none 0 0, .slice none 0 0]) (g := w.heap.size) (erK.M_mono (fun _ _ => trivial) HM6.out) (by rw [HZ1.out]; omega) (fun k hk => setRow_other W6.drew _ k _ hk)))
        have HGG := Kp.mk hHg
        have HBB := Kp.mk hHB
        have HMM := Kp.mk hHM
        clear hHg hHB hHM
        generalize W6.drew.setRow w.heap.size #[.int .i64 0, .bool false, .int .i64 0, .int .i64 0, .int .i64 0, .slice none 0 0, .slice none 0 0, .slice none 0 0, .slice none 0 0] = W7 at HGG HBB HMM ⊢
        go_wp2
        refine bodyPost_ret (results_ct rfl _ _ w.heap.size _ _ (0, 0) _ rfl HGG.out Tryz.underlying59 rfl (by kernel_rfl)) rfl ?_
        exact ⟨_, _, _, _, _, rfl, MsgRows.zero _ _, HMM.out, HBB.out⟩
end Go.Proofs.YtlkneoednkhleaaGreatDoor

namespace Go.Proofs.YtlkneoednkhleaaGreatDoor
open Go.RowKit Go.Proofs.YtlkneoednkhleaaGreatDoorW.PrintWords
set_option linter.unusedVariables false
set_option linter.unusedSimpArgs false
set_option maxRecDepth 100000
set_option maxHeartbeats 1000000

section
variable {ops : Array Oper} {rest : List Oper} {o : Oper} {a : Act} {Q : Exit → Act → World → Prop} {w0 W : World} {base : Nat} {v : Value} {s x : Operand}
/-- Records behind records, their cells alone. -/
theorem app_rows (hgd : o.guard = none) (ho : o.op = .call { callee := .builtin .append, args := #[s, x], argTypes := #[57, 57] })
    (xs ys : List (List Value)) (A : Option Addr) (m c : Nat) (hs : a.eval s = v) (hx : a.eval x = .slice A m c) (HO : (Kd.raw 23).R 28 W base (fun _ => True) v xs) (HR : (Kd.raw 23).C W A m ys) (HB : Below base w0 W) (hbase : base ≤ W.heap.size) (hl : (xs.length + m) * 96 ≤ 140737488355328)
    (h : ∀ v1 w1, Kp ((Kd.raw 23).R 28 w1 base (fun _ => True) v1 (xs ++ ys)) → Kp (Below base w0 w1) → Kp (base ≤ w1.heap.size) → wpList Tryz.prog ops Q rest (a.put o.dst v1) w1) :
    wpList Tryz.prog ops Q (o :: rest) a W :=
  Kd.R_append_rows (w0 := w0) (Kd.raw 23) base hgd s x 57 28 (.agg #[.string ⟨#[]⟩, .int .i64 0, .int .i64 0, .int .u32 0, .bool false, .int .u8 0, .int .u8 0, .int .u8 0, .int .u8 0, .int .u8 0, .int .u8 0, .int .u8 0, .int .u8 0, .int .u8 0, .int .u8 0, .int .u8 0, .int .u8 0, .int .u8 0, .int .u8 0, .int .u8 0, .int .u8 0, .string ⟨#[]⟩, .slice none 0 0]) 96 ho Tryz.underlying57 (by kernel_rfl) rfl (by decide) (by decide) v xs ys A m c (fun _ => True) (fun _ => False) hs hx HO HR (fun _ _ h => h) (fun _ h => h.elim) (fun _ _ => trivial) HB hbase hl
    (fun v1 w1 h1 h2 h3 _ => h v1 w1 ⟨h1⟩ ⟨h2⟩ ⟨Nat.le_trans hbase h3.size⟩)
end
theorem app_runR {ops : Array Oper} {rest : List Oper} {o : Oper} {a : Act} {Q : Exit → Act → World → Prop} {W W' : World} {s x : Operand} {t u : TypeId} {v1 v2 v : Value} (hgd : o.guard = none) (ho : o.op = .call { callee := .builtin .append, args := #[s, x], argTypes := #[t, u] })
    (hs : a.eval s = v1) (hx : a.eval x = v2) (hrun : (Builtin.append_ #[t, u] o.type #[v1, v2]).run Tryz.prog W = .ok v W') (h : wpList Tryz.prog ops Q rest (a.put o.dst v) W') : wpList Tryz.prog ops Q (o :: rest) a W := by
  refine wpList_plain hgd fun K hK => ?_
  unfold Oper.wp execOp
  simp only [ho, resolve, invoke, builtin, Sem.run_bind, Sem.run_pure, Result.andThen_ok, List.map_toArray, List.map_cons, List.map_nil, hs, hx, hrun]
  exact hK _ _ h
theorem growR_nil (n : Nat) (w : World) (hn : n * 96 ≤ 140737488355328) :
    Calls Tryz.prog 104 #[.slice none 0 0, .int .i64 n] w fun e w' => (∃ v, e = .returned v ∧ (Kd.raw 23).R 28 w' w.heap.size (fun _ => True) v []) ∧ Below w.heap.size w w' := by
  by_cases h0 : n = 0
  · subst h0
    go_enter Tryz.func104, Tryz.ntmps104
    go_wp2
    go_ret
    exact ⟨⟨_, rfl, Kd.R_nil _ _ _ _ _⟩, Below.refl _ _⟩
  · obtain ⟨i0, hi0, hzz⟩ := Option.map_eq_some_iff.1 (show (Tryz.prog.info? 28).map (fun i => (i.zero, i.size, i.bytes)) = some (some (.agg #[.string ⟨#[]⟩, .int .i64 0, .int .i64 0, .int .u32 0, .bool false, .int .u8 0, .int .u8 0, .int .u8 0, .int .u8 0, .int .u8 0, .int .u8 0, .int .u8 0, .int .u8 0, .int .u8 0, .int .u8 0, .int .u8 0, .int .u8 0, .int .u8 0, .int .u8 0, .int .u8 0, .int .u8 0, .string ⟨#[]⟩, .slice none 0 0]), 23, 96) by kernel_rfl)
    simp only [Prod.mk.injEq] at hzz
    obtain ⟨hz0, hz1, hz2⟩ := hzz
    have hrz := fun ty => Lib.run_append_grow_zeros (P := Tryz.prog) w 57 3 ty 28 i0 (.agg #[.string ⟨#[]⟩, .int .i64 0, .int .i64 0, .int .u32 0, .bool false, .int .u8 0, .int .u8 0, .int .u8 0, .int .u8 0, .int .u8 0, .int .u8 0, .int .u8 0, .int .u8 0, .int .u8 0, .int .u8 0, .int .u8 0, .int .u8 0, .int .u8 0, .int .u8 0, .int .u8 0, .int .u8 0, .string ⟨#[]⟩, .slice none 0 0]) .i64 .i64 Tryz.underlying57 Tryz.underlying3 hi0 hz0 none 0 0 [] (run_firstCells_none w.drew i0.size 0 0 0) n (by omega) (by rw [hz1]; decide) (by omega) (by omega) (by rw [hz2]; omega) (growslice_fits (by omega) (by rw [hz2]; omega))
    simp only [Nat.zero_add] at hrz
    have hGn : n ≤ grownCap w n 0 28 := grownCap_ge w _ _ _
    have hGm := grownCap_le_maxLen w n 0 28 (by unfold maxLen; omega)
    obtain ⟨G, hG⟩ : ∃ G, grownCap w n 0 28 = G := ⟨_, rfl⟩
    rw [hG] at hrz hGn hGm
    have HGM := Kp.mk hGm
    obtain ⟨cur, hcur⟩ : ∃ cur, ([] : List Value).toArray ++ Builtin.zeroCells (Value.agg #[.string ⟨#[]⟩, .int .i64 0, .int .i64 0, .int .u32 0, .bool false, .int .u8 0, .int .u8 0, .int .u8 0, .int .u8 0, .int .u8 0, .int .u8 0, .int .u8 0, .int .u8 0, .int .u8 0, .int .u8 0, .int .u8 0, .int .u8 0, .int .u8 0, .int .u8 0, .int .u8 0, .int .u8 0, .string ⟨#[]⟩, .slice none 0 0]).cells n ++ Builtin.zeroCells (Value.agg #[.string ⟨#[]⟩, .int .i64 0, .int .i64 0, .int .u32 0, .bool false, .int .u8 0, .int .u8 0, .int .u8 0, .int .u8 0, .int .u8 0, .int .u8 0, .int .u8 0, .int .u8 0, .int .u8 0, .int .u8 0, .int .u8 0, .int .u8 0, .int .u8 0, .int .u8 0, .int .u8 0, .int .u8 0, .string ⟨#[]⟩, .slice none 0 0]).cells (G - n) = cur := ⟨_, rfl⟩
    have hcs : cur.size = G * 23 := by
      rw [← hcur]
      simp [Builtin.zeroCells, Value.cells]
      omega
    rw [hcur] at hrz
    have HCS := Kp.mk hcs
    have hG9 : G ≤ 9223372036854775807 := by simpa [maxLen] using hGm
    have b0 : decide (0 < (n : Int)) = true := by simp; omega
    have b1 : decide ((n : Int) < 0) = false := by simp
    clear hG hcur hi0 hz0 hz1 hz2 hGm hcs
    go_enter Tryz.func104, Tryz.ntmps104
    have HRZ := Kp.mk hrz
    clear hrz
    go_wp2_with (at_builtin; with_reducible refine gate_builtin (b := .append) (xs := #[.tmp 20, .tmp 21]) rfl ?_; go_must (refine app_runR rfl rfl rfl rfl (HRZ.out _) ?_))
    go_ret
    refine ⟨⟨_, rfl, ?_⟩, (below_drew (Below.refl _ _)).alloc (Nat.le_refl _) _⟩
    exact ⟨fun _ _ => trivial, [], World.ownsRow_made w.drew cur G (Nat.le_refl _) HGM.out HCS.out, Reps.none _ _⟩
theorem at_rowR {w : World} {A : Option Addr} {n : Nat} {xss : List (List (List Value))} (h : (Kd.slice 28 (Kd.raw 23)).C w A n xss) (i : Nat) (hi : i < n) : ∃ ad A' c', A = some ad ∧ w.cell? (ad.add i) = some (.slice A' (xss.getD i []).length c') ∧ (xss.getD i []).length ≤ c' ∧ (Kd.raw 23).C w A' (xss.getD i []).length (xss.getD i []) := by
  obtain ⟨ad, c, e, -, hK, hc⟩ := Kd.C_get h [] (i : Int) (by omega) (by omega)
  rw [Int.toNat_natCast] at hK hc
  obtain ⟨A', c', rfl, h1, h2⟩ := hK
  refine ⟨ad, A', c', e, ?_, h1, h2⟩
  have h3 := hc 0 _ rfl
  have e1 : i * (Kd.slice 28 (Kd.raw 23)).sz + 0 = i := by show i * 1 + 0 = i; omega
  rwa [e1] at h3
theorem concatR_calls (A : Option Addr) (c : Nat) (xss : List (List (List Value))) (w : World) (h : (Kd.slice 28 (Kd.raw 23)).C w A xss.length xss) (hl : xss.flatten.length * 96 ≤ 140737488355328) :
    Calls Tryz.prog 68 #[.slice A xss.length c] w (Gives (Kd.slice 28 (Kd.raw 23)) xss.flatten w) := by
  have hm := (C_len h).2
  have HC := Kp.mk h
  have HL := Kp.mk hl
  clear h
  go_enter Tryz.func68, Tryz.ntmps68
  go_wp2_with (fail)
  have hfl : ∀ k, ((xss.take k).flatten).length ≤ xss.flatten.length := fun k => by
    conv => rhs; rw [← List.take_append_drop k xss, List.flatten_append, List.length_append]
    omega
  obtain ⟨F, hF⟩ : ∃ F : Nat → Nat, ∀ k, ((xss.take k).flatten).length = F k := ⟨_, fun _ => rfl⟩
  have hFz : F xss.length = xss.flatten.length := by rw [← hF, List.take_length]
  have hF0 : F 0 = 0 := by rw [← hF]; rfl
  have HFL := Kp.mk (fun k => (hF k) ▸ hfl k)
  have HF := Kp.mk hF
  have HFZ := Kp.mk hFz
  have HF0 := Kp.mk hF0
  clear hfl hF hFz hF0
  go_loop [3, 11] (fun z i => ∃ k : Nat, k ≤ xss.length ∧ i = .int .i64 k ∧ z = .int .i64 (F k)) (fun _ i => xss.length - (intOf i).toNat)
  case atStart => exact ⟨0, Nat.zero_le _, rfl, by rw [HF0.out]; rfl⟩
  case round =>
    obtain ⟨k, hk, rfl, rfl⟩ := hrel
    by_cases hlt : k < xss.length
    · obtain ⟨ad, A', c', rfl, hcell, -, -⟩ := at_rowR HC.out k hlt
      have hts := take_snoc xss [] k hlt
      obtain ⟨x, hx⟩ : ∃ x, xss.getD k [] = x := ⟨_, rfl⟩
      rw [hx] at hcell hts
      have hsn : F (k + 1) = F k + x.length := by
        rw [← HF.out, ← HF.out, hts, List.flatten_append, List.length_append]
        simp
      have hle : (F k + x.length) * 96 ≤ 140737488355328 := by
        have h1 := HFL.out (k + 1)
        have h2 := HL.out
        rw [hsn] at h1
        omega
      have HSN := Kp.mk hsn
      clear hx hts hsn
      go_wp2
      exact ⟨⟨k + 1, by omega, by go_num, by rw [HSN.out]; go_num⟩, by simp [intOf]; omega⟩
    · obtain rfl : k = xss.length := by omega
      have ht : xss.take xss.length = xss := List.take_length
      have hfx : F xss.length * 96 ≤ 140737488355328 := by rw [HFZ.out]; exact HL.out
      clear hlt
      go_wp2_with (fail)
      refine (growR_nil _ _ (by omega)).mono ?_
      rintro e w1 ⟨⟨v, rfl, hR⟩, hb⟩
      have HR := Kp.mk hR
      have HB := Kp.mk hb
      clear hR hb
      go_wp2_with (fail)
      go_loopw [6, 27] (fun v i wr => ∃ k : Nat, k ≤ xss.length ∧ i = .int .i64 k ∧ Kp (Below w.heap.size w wr) ∧ Kp ((Kd.raw 23).R 28 wr w.heap.size (fun _ => True) v ((xss.take k).flatten))) (fun _ i _ => xss.length - (intOf i).toNat)
      case atStart => exact ⟨0, Nat.zero_le _, rfl, HB, HR⟩
      case round =>
        obtain ⟨k, hk, rfl, HW, HRk⟩ := hrel
        by_cases hlt : k < xss.length
        · obtain ⟨ad, A', c', rfl, hcell, hc', hC'⟩ := at_rowR (Kd.C_below HC.out HW.out) k hlt
          have hts := take_snoc xss [] k hlt
          obtain ⟨x, hx⟩ : ∃ x, xss.getD k [] = x := ⟨_, rfl⟩
          rw [hx] at hcell hts hc' hC'
          have hsn : (xss.take (k + 1)).flatten = (xss.take k).flatten ++ x := by rw [hts]; simp
          have hle := HFL.out (k + 1)
          rw [← HF.out, hsn, List.length_append] at hle
          have hl := HL.out
          have hlb : (((xss.take k).flatten).length + x.length) * 96 ≤ 140737488355328 := by omega
          clear hle hl
          have HSN := Kp.mk hsn
          have HC' := Kp.mk hC'
          have hsz := HW.out.size
          clear hx hts hsn hC'
          obtain ⟨ys, hy⟩ : ∃ ys, (xss.take k).flatten = ys := ⟨_, rfl⟩
          rw [hy] at hlb HSN HRk
          clear hy
          go_wp2_with (at_builtin; with_reducible refine gate_builtin (b := .append) (xs := #[.tmp 31, .tmp 32]) rfl ?_; go_must (refine app_rows (w0 := w) (s := .tmp 31) (x := .tmp 32) (v := u6) (base := w.heap.size) rfl rfl ys x A' x.length c' rfl rfl HRk.out HC'.out HW.out hsz hlb ?_))
          intro v1 wa HR1 HW1 hs1
          go_wp2
          exact ⟨⟨k + 1, by omega, by go_num, HW1, ⟨by rw [HSN.out]; exact HR1.out⟩⟩, by simp [intOf]; omega⟩
        · obtain rfl : k = xss.length := by omega
          have ht : xss.take xss.length = xss := List.take_length
          rw [ht] at HRk
          clear ht hlt
          go_wp2
          go_ret
          exact ⟨_, rfl, ⟨_, rfl, HRk.out⟩, HW.out⟩
/-- A row's cells; what they say. -/
theorem C_raw {α : Type} {d : Kd α} {w : World} {A : Option Addr} {n : Nat} {ps : List α} (h : d.C w A n ps) : ∃ rows : List (List Value), (Kd.raw d.sz).C w A n rows ∧ rows.length = ps.length ∧ ∀ (j : Nat) (p : α), ps[j]? = some p → ∃ row, rows[j]? = some row ∧ d.K w p row := by
  obtain ⟨h1, h2, h3⟩ := h
  by_cases h0 : n = 0
  · subst h0
    obtain rfl := List.length_eq_zero_iff.1 h1
    exact ⟨[], ⟨rfl, h2, fun h => absurd h (Nat.lt_irrefl _)⟩, rfl, fun j p hj => by simp at hj⟩
  obtain ⟨ad, ha, hc⟩ := h3 (Nat.pos_of_ne_zero h0)
  have hch : ∀ j : Nat, ∃ c : List Value, ∀ p, ps[j]? = some p → c.length = d.sz ∧ d.K w p c ∧ ∀ (i : Nat) (u : Value), c[i]? = some u → w.cell? (ad.add (j * d.sz + i)) = some u := fun j => by
    cases hj : ps[j]? with
    | none => exact ⟨[], fun p hp => by cases hp⟩
    | some p =>
      obtain ⟨c, k1, k2, k3⟩ := hc j p hj
      exact ⟨c, fun q hq => by cases hq; exact ⟨k1, k2, k3⟩⟩
  have hrow : ∀ (j : Nat) (row : List Value), ((List.range ps.length).map fun j => Classical.choose (hch j))[j]? = some row → j < ps.length ∧ row = Classical.choose (hch j) := fun j row hj => by
    rw [List.getElem?_map] at hj
    obtain ⟨i, hi, rfl⟩ := Option.map_eq_some_iff.1 hj
    obtain ⟨hi1, hi2⟩ := List.getElem?_eq_some_iff.1 hi
    rw [List.length_range] at hi1
    rw [List.getElem_range] at hi2
    subst hi2
    exact ⟨hi1, rfl⟩
  refine ⟨(List.range ps.length).map fun j => Classical.choose (hch j), ⟨by rw [List.length_map, List.length_range]; exact h1, h2, fun _ => ⟨ad, ha, fun j row hj => ?_⟩⟩, by rw [List.length_map, List.length_range], fun j p hj => ?_⟩
  · obtain ⟨hl, rfl⟩ := hrow j row hj
    obtain ⟨k1, k2, k3⟩ := Classical.choose_spec (hch j) _ (List.getElem?_eq_getElem hl)
    exact ⟨_, k1, ⟨rfl, k1, d.K_one k2⟩, k3⟩
  · obtain ⟨hl, -⟩ := List.getElem?_eq_some_iff.1 hj
    exact ⟨Classical.choose (hch j), by rw [List.getElem?_map, List.getElem?_range hl]; rfl, (Classical.choose_spec (hch j) p hj).2.1⟩
theorem C_of_raw {α : Type} {d : Kd α} {w : World} {A : Option Addr} {n : Nat} {ps : List α} {rows : List (List Value)} (h : (Kd.raw d.sz).C w A n rows) (hl : rows.length = ps.length) (hk : ∀ (j : Nat) (p : α), ps[j]? = some p → ∃ row, rows[j]? = some row ∧ d.K w p row) : d.C w A n ps := by
  obtain ⟨h1, h2, h3⟩ := h
  refine ⟨by rw [← hl]; exact h1, h2, fun h0 => ?_⟩
  obtain ⟨ad, ha, hc⟩ := h3 h0
  refine ⟨ad, ha, fun j p hj => ?_⟩
  obtain ⟨row, hr, hK⟩ := hk j p hj
  obtain ⟨c, k1, ⟨rfl, -, -⟩, k3⟩ := hc j row hr
  exact ⟨c, k1, hK, k3⟩
/-- A row of rows, in a new block of its own. -/
theorem lit_rowsD {α : Type} {d : Kd α} {t : Nat} {w : World} {T : TypeId} (vs : List Value) (xss : List (List α)) (hl : vs.length = xss.length) (hm : vs.length ≤ 9223372036854775807)
    (h : ∀ j, j < xss.length → ∃ A c, vs[j]? = some (.slice A (xss.getD j []).length c) ∧ (xss.getD j []).length ≤ c ∧ d.C w A (xss.getD j []).length (xss.getD j [])) :
    (Kd.slice t d).C (w.alloc (.cells vs.toArray T)) (some ⟨w.heap.size, 0, none⟩) xss.length xss := by
  refine ⟨rfl, by omega, fun _ => ⟨_, rfl, fun j p hj => ?_⟩⟩
  obtain ⟨hlt, hp⟩ := List.getElem?_eq_some_iff.1 hj
  obtain ⟨A, c, h1, h2, h3⟩ := h j hlt
  have e : xss.getD j [] = p := by rw [List.getD_eq_getElem?_getD, hj]; rfl
  rw [e] at h1 h2 h3
  refine ⟨[.slice A p.length c], rfl, ⟨A, c, rfl, h2, Kd.C_below h3 ((Below.refl _ _).alloc (Nat.le_refl _) _)⟩, fun i u hu => ?_⟩
  cases i with
  | zero =>
    obtain rfl : .slice A p.length c = u := by simpa using hu
    have e1 : j * (Kd.slice t d).sz + 0 = j := by show j * 1 + 0 = j; omega
    rw [e1, add_plain, blk_cell (heap_new w (.cells vs.toArray T)), List.getElem?_toArray]
    exact h1
  | succ i => simp at hu
theorem slice_MR {α : Type} {d : Kd α} {t : Nat} {w : World} {b : Nat} {ok : Nat → Prop} {xs : List α} {v : Value} (h : (Kd.slice t d).M w b ok xs [v]) : d.R t w b ok v xs := by
  obtain ⟨u, hu, hR⟩ := h
  obtain rfl := List.singleton_inj.1 hu
  exact hR
/-- Three rows of records, one behind the other. -/
theorem all_calls (A1 A2 A3 : Option Addr) (c1 c2 c3 : Nat) (l1 l2 l3 : List Rec) (w : World) (h1 : recK.C w A1 l1.length l1) (k1 : l1.length ≤ c1) (h2 : recK.C w A2 l2.length l2) (k2 : l2.length ≤ c2) (h3 : recK.C w A3 l3.length l3) (k3 : l3.length ≤ c3) (hl : (l1.length + l2.length + l3.length) * 96 ≤ 140737488355328) :
    Calls Tryz.prog 68 #[.slice (some ⟨w.heap.size, 0, none⟩) 3 3] (w.alloc (.cells #[.slice A1 l1.length c1, .slice A2 l2.length c2, .slice A3 l3.length c3] 57))
      fun e w' => (∃ A c, e = .returned (.slice A (l1 ++ l2 ++ l3).length c) ∧ (∀ ad, A = some ad → ∃ g, ad = ⟨g, 0, none⟩) ∧ (l1 ++ l2 ++ l3).length ≤ c ∧ recK.C w' A (l1 ++ l2 ++ l3).length (l1 ++ l2 ++ l3)) ∧ Below (w.alloc (.cells #[.slice A1 l1.length c1, .slice A2 l2.length c2, .slice A3 l3.length c3] 57)).heap.size (w.alloc (.cells #[.slice A1 l1.length c1, .slice A2 l2.length c2, .slice A3 l3.length c3] 57)) w' := by
  obtain ⟨r1, a1, b1, e1⟩ := C_raw h1
  obtain ⟨r2, a2, b2, e2⟩ := C_raw h2
  obtain ⟨r3, a3, b3, e3⟩ := C_raw h3
  have hrows := lit_rowsD (d := Kd.raw 23) (t := 28) (w := w) (T := 57) [.slice A1 l1.length c1, .slice A2 l2.length c2, .slice A3 l3.length c3] [r1, r2, r3] rfl (by show 3 ≤ 9223372036854775807; decide) (fun j hj => by
    have hj' : j < 3 := hj
    match j, hj' with
    | 0, _ => exact ⟨A1, c1, by rw [← b1]; rfl, by rw [← b1] at k1; exact k1, by rw [← b1] at a1; exact a1⟩
    | 1, _ => exact ⟨A2, c2, by rw [← b2]; rfl, by rw [← b2] at k2; exact k2, by rw [← b2] at a2; exact a2⟩
    | 2, _ => exact ⟨A3, c3, by rw [← b3]; rfl, by rw [← b3] at k3; exact k3, by rw [← b3] at a3; exact a3⟩)
  have hfl : [r1, r2, r3].flatten = r1 ++ r2 ++ r3 := by simp
  have hlen : (r1 ++ r2 ++ r3).length = (l1 ++ l2 ++ l3).length := by simp only [List.length_append, b1, b2, b3]
  refine (concatR_calls _ 3 [r1, r2, r3] _ hrows (by rw [hfl, hlen]; simp only [List.length_append]; exact hl)).mono ?_
  rintro e w' ⟨v, rfl, hm, hb⟩
  rw [hfl] at hm
  obtain ⟨A, c, rfl, hc, hC⟩ := slice_open ((Kd.slice 28 (Kd.raw 23)).K_of_M hm)
  rw [hlen] at hc hC ⊢
  have hB : Below w.heap.size w w' := ((Below.refl w.heap.size w).alloc (Nat.le_refl _) _).trans (hb.mono (by simp))
  refine ⟨⟨A, c, rfl, fun ad had => by subst had; exact Kd.R_head (slice_MR hm), hc, C_of_raw (d := recK) hC hlen (fun j p hj => ?_)⟩, hb⟩
  rw [List.append_assoc] at hj ⊢
  by_cases g1 : j < l1.length
  · rw [List.getElem?_append_left g1] at hj
    obtain ⟨row, hr, hK⟩ := e1 j p hj
    exact ⟨row, by rw [List.getElem?_append_left (by omega)]; exact hr, recK.K_below hB hK⟩
  · rw [List.getElem?_append_right (by omega)] at hj
    by_cases g2 : j - l1.length < l2.length
    · rw [List.getElem?_append_left g2] at hj
      obtain ⟨row, hr, hK⟩ := e2 _ p hj
      exact ⟨row, by rw [List.getElem?_append_right (by omega), b1, List.getElem?_append_left (by omega)]; exact hr, recK.K_below hB hK⟩
    · rw [List.getElem?_append_right (by omega)] at hj
      obtain ⟨row, hr, hK⟩ := e3 _ p hj
      exact ⟨row, by rw [List.getElem?_append_right (by omega), b1, List.getElem?_append_right (by omega), b2]; exact hr, recK.K_below hB hK⟩
end Go.Proofs.YtlkneoednkhleaaGreatDoor

namespace Go.Proofs.YtlkneoednkhleaaGreatDoor
open Go.RowKit Go.Proofs.YtlkneoednkhleaaGreatDoorW.PrintWords
set_option linter.unusedVariables false
set_option linter.unusedSimpArgs false
set_option maxRecDepth 100000
set_option maxHeartbeats 4000000

def inB (v most : Int) : Bool := decide (0 ≤ v) && decide (v ≤ most)
theorem dwithin_calls (v most : Int) (w : World) : Calls Tryz.prog 69 #[.int .i64 v, .int .i64 most] w fun e w' => e = .returned (.bool (inB v most)) ∧ w = w' := by
  by_cases h : 0 ≤ v
  · have hb : decide (0 ≤ v) = true := by simpa using h
    have hw : inB v most = decide (v ≤ most) := by unfold inB; rw [hb, Bool.true_and]
    rw [hw]
    clear hw
    go_enter Tryz.func69, Tryz.ntmps69
    go_wp2
    go_ret
    exact ⟨rfl, rfl⟩
  · have hb : decide (0 ≤ v) = false := by simpa using h
    have hw : inB v most = false := by unfold inB; rw [hb, Bool.false_and]
    rw [hw]
    clear hw
    go_enter Tryz.func69, Tryz.ntmps69
    go_wp2
    go_ret
    exact ⟨rfl, rfl⟩
def Msg.all (m : Msg) : List Rec := m.an ++ m.au ++ m.ex
def Msg.headOk (m : Msg) : Bool := inB m.id 65535 && (inB m.op 15 && (inB m.co 15 && (inB m.fl 127 && decide (m.qs.length + m.all.length ≤ 64))))
def Msg.bits (m : Msg) : Int := m.op * 2048 + m.fl * 16 + m.co + (if m.rp then 32768 else 0)
def Msg.head (m : Msg) : List Int := be16 m.id ++ be16 m.bits ++ be16 m.qs.length ++ be16 m.an.length ++ be16 m.au.length ++ be16 m.ex.length
def Msg.wire (m : Msg) : List Int := m.head ++ (m.qs.map Qu.wire).flatten ++ (m.all.map Rec.wire).flatten
/-- A message's bytes, or why there are none. -/
def writeM (m : Msg) : List Int × Er :=
  if m.headOk = false then ([], .code 1)
  else if (m.qs.all Qu.right) = false then ([], .code 1)
  else if (m.all.all Rec.right) = false then ([], .code 1)
  else if 4000 < m.wire.length then ([], .code 4)
  else (m.wire, .none)
structure Rec.Fit (r : Rec) : Prop where
  name : r.name.length < 4294967281
  tgt : r.tgt.length < 4294967281
  data : r.data.length ≤ 9223372036854775807
  ttl : 0 ≤ r.ttl ∧ r.ttl ≤ 4294967295
/-- WriteQuestion, WriteRecord, at any. -/
theorem wq_calls (q : Qu) (w : World) (hE : Env w) (hs : q.name.length < 4294967281) : Calls Tryz.prog 17 #[.agg #[.string (mkB q.name), .int .i64 q.typ, .int .i64 q.cls]] w (Gives2 bytesK erK (if q.right = true then q.wire else []) (if q.right = true then .none else .code 1) w) := by
  by_cases h : q.right = true
  · rw [if_pos h, if_pos h]; exact wq_good q w hE hs h
  · rw [if_neg h, if_neg h]; exact wq_bad q w hE hs (by simpa using h)
theorem wr_calls (r : Rec) (A : Option Addr) (c : Nat) (w : World) (hE : Env w) (h : (Kd.int .u8).C w A r.data.length r.data) (hc : r.data.length ≤ c) (hf : r.Fit) : Calls Tryz.prog 15 #[.agg (recA r (.slice A r.data.length c))] w (Gives2 bytesK erK (if r.right = true then r.wire else []) (if r.right = true then .none else .code 1) w) := by
  by_cases hr : r.right = true
  · rw [if_pos hr, if_pos hr]; exact wr_good r A c w hE h hc hr hf.name hf.tgt hf.ttl.1 hf.ttl.2
  · rw [if_neg hr, if_neg hr]; exact wr_bad r A c w hE hf.name hf.tgt hf.data (by simpa using hr)
theorem run_index_four (a b c d : Int) (w : World) :
    (Instr.index 120 (.agg #[.int .i64 a, .int .i64 b, .int .i64 c, .int .i64 d]) (.int .i64 0)).run Tryz.prog w = .ok (.int .i64 a) w
    ∧ (Instr.index 120 (.agg #[.int .i64 a, .int .i64 b, .int .i64 c, .int .i64 d]) (.int .i64 1)).run Tryz.prog w = .ok (.int .i64 b) w
    ∧ (Instr.index 120 (.agg #[.int .i64 a, .int .i64 b, .int .i64 c, .int .i64 d]) (.int .i64 2)).run Tryz.prog w = .ok (.int .i64 c) w
    ∧ (Instr.index 120 (.agg #[.int .i64 a, .int .i64 b, .int .i64 c, .int .i64 d]) (.int .i64 3)).run Tryz.prog w = .ok (.int .i64 d) w := by
  refine ⟨?_, ?_, ?_, ?_⟩ <;> simp [Instr.index, run_underlying Tryz.underlying120, asIntOf, go_sem]
/-- A block that only grows younger. -/
theorem head_bad {m : Msg} (h : m.headOk = false) : writeM m = ([], .code 1) := by unfold writeM; rw [if_pos h]
theorem qs_bad {m : Msg} (h : m.headOk = true) {q : Qu} (hq : q ∈ m.qs) (hr : q.right = false) : writeM m = ([], .code 1) := by
  unfold writeM
  rw [if_neg (by simp [h]), if_pos]
  exact List.all_eq_false.2 ⟨q, hq, by simp [hr]⟩
theorem rs_bad {m : Msg} (h : m.headOk = true) (h2 : m.qs.all Qu.right = true) {r : Rec} (hq : r ∈ m.all) (hr : r.right = false) : writeM m = ([], .code 1) := by
  unfold writeM
  rw [if_neg (by simp [h]), if_neg (by simp [h2]), if_pos]
  exact List.all_eq_false.2 ⟨r, hq, by simp [hr]⟩
theorem concat2_calls (A B : Option Addr) (c d : Nat) (xs ys : List Int) (W : World) (h : (Kd.int .u8).C W A xs.length xs) (hc : xs.length ≤ c) (h2 : (Kd.int .u8).C W B ys.length ys) (hd : ys.length ≤ d) (hl : xs.length + ys.length ≤ 140737488355328) :
    Calls Tryz.prog 50 #[.slice (some ⟨W.heap.size, 0, none⟩) 2 2] (W.alloc (.cells #[.slice A xs.length c, .slice B ys.length d] 22)) (Gives (Kd.slice 5 (Kd.int .u8)) (xs ++ ys) (W.alloc (.cells #[.slice A xs.length c, .slice B ys.length d] 22))) := by
  have hrows := lit_rows (w := W) (T := 22) [.slice A xs.length c, .slice B ys.length d] [xs, ys] rfl (by show 2 ≤ 9223372036854775807; decide) (fun j hj => by
    have hj' : j < 2 := hj
    match j, hj' with
    | 0, _ => exact ⟨A, c, rfl, hc, h⟩
    | 1, _ => exact ⟨B, d, rfl, hd, h2⟩)
  have hfl : [xs, ys].flatten = xs ++ ys := by simp
  have hcat := concatB_calls _ 2 [xs, ys] _ hrows (by rw [hfl, List.length_append]; omega)
  rw [hfl] at hcat
  exact hcat
def hdM (l : List Int) (a b c d : Int) : Nat → List Int
  | 0 => l
  | 1 => l ++ be16 a
  | 2 => l ++ be16 a ++ be16 b
  | 3 => l ++ be16 a ++ be16 b ++ be16 c
  | _ => l ++ be16 a ++ be16 b ++ be16 c ++ be16 d
theorem pre_ex {α : Type} (f : α → List Int) (l : List Int) (xs : List α) : ∃ P : Nat → List Int, P 0 = l ∧ (∀ (k : Nat) (x : α), xs[k]? = some x → P (k + 1) = P k ++ f x) ∧ P xs.length = l ++ (xs.map f).flatten := by
  refine ⟨fun k => l ++ ((xs.take k).map f).flatten, by simp, fun k x h => ?_, by simp⟩
  have ht : xs.take (k + 1) = xs.take k ++ [x] := by rw [List.take_add_one, h]; rfl
  show l ++ ((xs.take (k + 1)).map f).flatten = _
  rw [ht]
  simp
theorem or_flags (op fl co : Int) (h1 : 0 ≤ op ∧ op ≤ 15) (h2 : 0 ≤ fl ∧ fl ≤ 127) (h3 : 0 ≤ co ∧ co ≤ 15) :
    bits .or .i64 (op * 2048) (fl * 16) = op * 2048 + fl * 16 ∧ bits .or .i64 (op * 2048 + fl * 16) co = op * 2048 + fl * 16 + co ∧ bits .or .i64 (op * 2048 + fl * 16 + co) 32768 = op * 2048 + fl * 16 + co + 32768 := by
  obtain ⟨a1, a2⟩ := h1
  obtain ⟨b1, b2⟩ := h2
  obtain ⟨c1, c2⟩ := h3
  exact ⟨bits_join .i64 16 (by decide) (fun n h0 h1 => IntWalk.i64_in n (by omega)) 11 _ _ (by omega) (by omega) (by omega) (by omega) (by omega) (by omega),
    bits_join .i64 16 (by decide) (fun n h0 h1 => IntWalk.i64_in n (by omega)) 4 _ _ (by omega) (by omega) (by omega) (by omega) (by omega) (by omega),
    bits_join_low .i64 16 (by decide) (fun n h0 h1 => IntWalk.i64_in n (by omega)) 15 _ _ (by omega) (by omega) (by omega) (by omega) (by omega) (by omega)⟩
theorem at_qu {w : World} {A : Option Addr} {n : Nat} {xs : List Qu} (h : quK.C w A n xs) (k : Nat) (hk : k < n) :
    ∃ ad, A = some ad ∧ w.cell? (ad.add (k * 3)) = some (.string (mkB (xs.getD k Qu.zero).name)) ∧ w.cell? ⟨(ad.add (k * 3)).block, (ad.add (k * 3)).off + 1, none⟩ = some (.int .i64 (xs.getD k Qu.zero).typ) ∧ w.cell? ⟨(ad.add (k * 3)).block, (ad.add (k * 3)).off + 2, none⟩ = some (.int .i64 (xs.getD k Qu.zero).cls) := by
  obtain ⟨ad, c, e, -, hK, hc⟩ := Kd.C_get h Qu.zero (k : Int) (by omega) (by omega)
  rw [Int.toNat_natCast] at hK hc
  obtain rfl := quK_open.1 hK
  have e3 : quK.sz = 3 := rfl
  rw [e3] at hc
  refine ⟨ad, e, hc 0 _ rfl, ?_, ?_⟩
  · rw [← add_field ad (k * 3) 1 (by decide)]; exact hc 1 _ rfl
  · rw [← add_field ad (k * 3) 2 (by decide)]; exact hc 2 _ rfl

theorem write_calls (m : Msg) (A5 A6 A7 A8 : Option Addr) (c5 c6 c7 c8 : Nat) (w : World) (out : List Int) (er : Er) (hE : Env w) (h5 : quK.C w A5 m.qs.length m.qs) (k5 : m.qs.length ≤ c5) (h6 : recK.C w A6 m.an.length m.an) (k6 : m.an.length ≤ c6) (h7 : recK.C w A7 m.au.length m.au) (k7 : m.au.length ≤ c7) (h8 : recK.C w A8 m.ex.length m.ex) (k8 : m.ex.length ≤ c8)
    (hq : ∀ q ∈ m.qs, q.name.length < 4294967281) (hr : ∀ r ∈ m.all, r.Fit) (hl : (m.an.length + m.au.length + m.ex.length) * 96 ≤ 140737488355328) (hql : m.qs.length ≤ 140737488355328) (hw : writeM m = (out, er)) :
    Calls Tryz.prog 29 #[.agg (msgA m (.slice A5 m.qs.length c5) (.slice A6 m.an.length c6) (.slice A7 m.au.length c7) (.slice A8 m.ex.length c8))] w (Gives2 bytesK erK out er w) := by
  have hqn := (C_len h5).2
  obtain ⟨id, rp, op, co, fl, qs, an, au, ex⟩ := m
  dsimp only at h5 h6 h7 h8 k5 k6 k7 k8 hq hl hqn hql
  show Calls Tryz.prog 29 #[.agg #[.int .i64 id, .bool rp, .int .i64 op, .int .i64 co, .int .i64 fl, .slice A5 qs.length c5, .slice A6 an.length c6, .slice A7 au.length c7, .slice A8 ex.length c8]] w (Gives2 bytesK erK out er w)
  have HS := Kp.mk ((St.start hE).alloc (.cells #[.int .i64 id, .bool rp, .int .i64 op, .int .i64 co, .int .i64 fl, .slice A5 qs.length c5, .slice A6 an.length c6, .slice A7 au.length c7, .slice A8 ex.length c8] 59))
  have Hg := Kp.mk (heap_new w (.cells #[.int .i64 id, .bool rp, .int .i64 op, .int .i64 co, .int .i64 fl, .slice A5 qs.length c5, .slice A6 an.length c6, .slice A7 au.length c7, .slice A8 ex.length c8] 59))
  have g0 := blk_cell Hg.out 0
  have g1 := blk_cell Hg.out 1
  have g2 := blk_cell Hg.out 2
  have g3 := blk_cell Hg.out 3
  have g4 := blk_cell Hg.out 4
  have g5 := blk_cell Hg.out 5
  have g6 := blk_cell Hg.out 6
  have g7 := blk_cell Hg.out 7
  have g8 := blk_cell Hg.out 8
  have HA := Kp.mk (fun (W : World) (hB : Below w.heap.size w W) => all_calls A6 A7 A8 c6 c7 c8 an au ex W (Kd.C_below h6 hB) k6 (Kd.C_below h7 hB) k7 (Kd.C_below h8 hB) k8 hl)
  have H5 := Kp.mk h5
  have HQ := Kp.mk hq
  have HRF := Kp.mk hr
  have HW := Kp.mk hw
  have HSa := Kp.mk (HS.out.alloc (.cells #[.slice A6 an.length c6, .slice A7 au.length c7, .slice A8 ex.length c8] 57))
  obtain ⟨al, hal⟩ : ∃ al, an ++ au ++ ex = al := ⟨_, rfl⟩
  have hall : Msg.all ⟨id, rp, op, co, fl, qs, an, au, ex⟩ = al := hal
  have HAL := Kp.mk hall
  have hals : al.length = an.length + au.length + ex.length := by rw [← hal, List.length_append, List.length_append]
  rw [hal] at HA
  have HALS := Kp.mk hals
  have hz1 : (w.alloc (.cells #[.int .i64 id, .bool rp, .int .i64 op, .int .i64 co, .int .i64 fl, .slice A5 qs.length c5, .slice A6 an.length c6, .slice A7 au.length c7, .slice A8 ex.length c8] 59)).heap.size = w.heap.size + 1 := by simp
  have hA1 := HA.out (w.alloc (.cells #[.int .i64 id, .bool rp, .int .i64 op, .int .i64 co, .int .i64 fl, .slice A5 qs.length c5, .slice A6 an.length c6, .slice A7 au.length c7, .slice A8 ex.length c8] 59)) HS.out.below
  rw [hz1] at hA1
  have HA1 := Kp.mk hA1
  have HZ1 := Kp.mk hz1
  clear hE h5 h6 h7 h8 hq hr hw hal hall hals hz1 hA1 HA
  go_enter Tryz.func29, Tryz.ntmps29
  go_wp2_with (fail)
  refine HA1.out.mono ?_
  rintro e1 w1 ⟨⟨A, c, rfl, hpl, hc, hC⟩, hB⟩
  have HPL := Kp.mk hpl
  clear hpl
  have HS1 := Kp.mk (HSa.out.step hB)
  have Hal := Kp.mk ((Below.refl (w.alloc (.cells #[.int .i64 id, .bool rp, .int .i64 op, .int .i64 co, .int .i64 fl, .slice A5 qs.length c5, .slice A6 an.length c6, .slice A7 au.length c7, .slice A8 ex.length c8] 59)).heap.size (w.alloc (.cells #[.int .i64 id, .bool rp, .int .i64 op, .int .i64 co, .int .i64 fl, .slice A5 qs.length c5, .slice A6 an.length c6, .slice A7 au.length c7, .slice A8 ex.length c8] 59))).alloc (Nat.le_refl _) (.cells #[.slice A6 an.length c6, .slice A7 au.length c7, .slice A8 ex.length c8] 57))
  have Hg1 := Kp.mk ((hB.block _ (heap_lt ((Hal.out.block _ (heap_lt Hg.out)).trans Hg.out))).trans ((Hal.out.block _ (heap_lt Hg.out)).trans Hg.out))
  have HC1 := Kp.mk hC
  clear g0 g1 g2 g3 g4 g5 g6 g7 g8 hB Hal hC HA1
  have g0 := blk_cell Hg1.out 0
  have g2 := blk_cell Hg1.out 2
  have g3 := blk_cell Hg1.out 3
  have g4 := blk_cell Hg1.out 4
  have g5 := blk_cell Hg1.out 5
  obtain ⟨b0, hb0⟩ : ∃ b, inB id 65535 = b := ⟨_, rfl⟩
  obtain ⟨b1, hb1⟩ : ∃ b, inB op 15 = b := ⟨_, rfl⟩
  obtain ⟨b2, hb2⟩ : ∃ b, inB co 15 = b := ⟨_, rfl⟩
  obtain ⟨b3, hb3⟩ : ∃ b, inB fl 127 = b := ⟨_, rfl⟩
  obtain ⟨b4, hb4⟩ : ∃ b, decide (qs.length + al.length ≤ 64) = b := ⟨_, rfl⟩
  have HOK : Kp (Msg.headOk ⟨id, rp, op, co, fl, qs, an, au, ex⟩ = (b0 && (b1 && (b2 && (b3 && b4))))) := ⟨by unfold Msg.headOk; dsimp only; rw [HAL.out, hb0, hb1, hb2, hb3, hb4]⟩
  cases b0
  · clear hb1 hb2 hb3 hb4
    obtain ⟨rfl, rfl⟩ : ([] : List Int) = out ∧ Er.code 1 = er := by
      have h1 := head_bad (m := ⟨id, rp, op, co, fl, qs, an, au, ex⟩) (by rw [HOK.out]; rfl)
      rw [HW.out] at h1
      exact ⟨(congrArg Prod.fst h1).symm, (congrArg Prod.snd h1).symm⟩
    go_wp2_with (go_at_call 69; refine q_ (dwithin_calls _ _ _) ?_)
    go_ret2
    exact ⟨_, _, rfl, ⟨_, rfl, Kd.R_nil _ _ _ _ _⟩, er_code _ _ _ _, HS1.out.below⟩
  cases b1
  · clear hb2 hb3 hb4
    obtain ⟨rfl, rfl⟩ : ([] : List Int) = out ∧ Er.code 1 = er := by
      have h1 := head_bad (m := ⟨id, rp, op, co, fl, qs, an, au, ex⟩) (by rw [HOK.out]; rfl)
      rw [HW.out] at h1
      exact ⟨(congrArg Prod.fst h1).symm, (congrArg Prod.snd h1).symm⟩
    go_wp2_with (go_at_call 69; refine q_ (dwithin_calls _ _ _) ?_)
    go_ret2
    exact ⟨_, _, rfl, ⟨_, rfl, Kd.R_nil _ _ _ _ _⟩, er_code _ _ _ _, HS1.out.below⟩
  cases b2
  · clear hb3 hb4
    obtain ⟨rfl, rfl⟩ : ([] : List Int) = out ∧ Er.code 1 = er := by
      have h1 := head_bad (m := ⟨id, rp, op, co, fl, qs, an, au, ex⟩) (by rw [HOK.out]; rfl)
      rw [HW.out] at h1
      exact ⟨(congrArg Prod.fst h1).symm, (congrArg Prod.snd h1).symm⟩
    go_wp2_with (go_at_call 69; refine q_ (dwithin_calls _ _ _) ?_)
    go_ret2
    exact ⟨_, _, rfl, ⟨_, rfl, Kd.R_nil _ _ _ _ _⟩, er_code _ _ _ _, HS1.out.below⟩
  cases b3
  · clear hb4
    obtain ⟨rfl, rfl⟩ : ([] : List Int) = out ∧ Er.code 1 = er := by
      have h1 := head_bad (m := ⟨id, rp, op, co, fl, qs, an, au, ex⟩) (by rw [HOK.out]; rfl)
      rw [HW.out] at h1
      exact ⟨(congrArg Prod.fst h1).symm, (congrArg Prod.snd h1).symm⟩
    go_wp2_with (go_at_call 69; refine q_ (dwithin_calls _ _ _) ?_)
    go_ret2
    exact ⟨_, _, rfl, ⟨_, rfl, Kd.R_nil _ _ _ _ _⟩, er_code _ _ _ _, HS1.out.below⟩
  cases b4
  · have h64 : ¬ (qs.length + al.length ≤ 64) := by simpa using hb4
    have b4 : decide ((64 : Int) < (qs.length : Int) + (al.length : Int)) = true := by simp; omega
    have hz1 : al.length ≤ 140737488355328 := by have := HALS.out; omega
    clear hb4 h64
    obtain ⟨rfl, rfl⟩ : ([] : List Int) = out ∧ Er.code 1 = er := by
      have h1 := head_bad (m := ⟨id, rp, op, co, fl, qs, an, au, ex⟩) (by rw [HOK.out]; rfl)
      rw [HW.out] at h1
      exact ⟨(congrArg Prod.fst h1).symm, (congrArg Prod.snd h1).symm⟩
    go_wp2_with (go_at_call 69; refine q_ (dwithin_calls _ _ _) ?_)
    go_ret2
    exact ⟨_, _, rfl, ⟨_, rfl, Kd.R_nil _ _ _ _ _⟩, er_code _ _ _ _, HS1.out.below⟩
  have h64 : qs.length + al.length ≤ 64 := by simpa using hb4
  have b4 : decide ((64 : Int) < (qs.length : Int) + (al.length : Int)) = false := by simp; omega
  have i0 : 0 ≤ id ∧ id ≤ 65535 := by simpa [inB] using hb0
  have i1 : 0 ≤ op ∧ op ≤ 15 := by simpa [inB] using hb1
  have i2 : 0 ≤ co ∧ co ≤ 15 := by simpa [inB] using hb2
  have i3 : 0 ≤ fl ∧ fl ≤ 127 := by simpa [inB] using hb3
  obtain ⟨i00, i01⟩ := i0
  obtain ⟨i10, i11⟩ := i1
  obtain ⟨i20, i21⟩ := i2
  obtain ⟨i30, i31⟩ := i3
  have g1 := blk_cell Hg1.out 1
  clear hb4
  obtain ⟨o1, o2, o3⟩ := or_flags op fl co ⟨i10, i11⟩ ⟨i30, i31⟩ ⟨i20, i21⟩
  obtain ⟨fb, hfb⟩ : ∃ fb, Msg.bits ⟨id, rp, op, co, fl, qs, an, au, ex⟩ = fb := ⟨_, rfl⟩
  have hfb2 : fb = op * 2048 + fl * 16 + co + (if rp then 32768 else 0) := hfb.symm
  have hfr : 0 ≤ fb ∧ fb ≤ 65535 := by rw [hfb2]; cases rp <;> simp <;> omega
  obtain ⟨hfr0, hfr1⟩ := hfr
  have HFB := Kp.mk hfb
  have HFB2 := Kp.mk hfb2
  clear hfb hfb2
  go_upto_if 68 with (go_at_call 69; refine q_ (dwithin_calls _ _ _) ?_)
  go_cut [5] (fun f wx => f = .int .i64 fb ∧ wx = w1)
  case first =>
    have h2 := HFB2.out
    cases rp
    · rw [if_neg (by decide), Int.add_zero] at h2
      have H2 := Kp.mk h2
      clear h2
      go_wp2
      go_meet
      exact ⟨by rw [H2.out], rfl⟩
    · rw [if_pos rfl] at h2
      have H2 := Kp.mk h2
      clear h2
      go_wp2
      go_meet
      exact ⟨by rw [H2.out], rfl⟩
  case rest =>
    obtain ⟨rfl, rfl⟩ := hcut
    clear o1 o2 o3 hb0 hb1 hb2 hb3 b4 g1 g2 g3 g4 g5
    have g0 := blk_cell Hg1.out 0
    have HSb : Kp (St wc wc) := ⟨⟨Below.refl _ _, HS1.out.env⟩⟩
    go_wp2_with (fail)
    refine gs_ (put16_calls none 0 0 [] id _ (R_C (Kd.R_nil (Kd.int .u8) 5 _ 0 (fun _ => True))).1 (Nat.le_refl _) (by decide) i00 i01) HSb ?_
    intro A2 c2 w2 hc2 hcm2 HC2 HM2 HB2 HS2
    go_wp2_with (fail)
    refine gs_ (put16_calls A2 _ c2 _ fb _ HC2.out hc2 (by simp [be16]) hfr0 hfr1) HS2 ?_
    intro A3 c3 w3 hc3 hcm3 HC3 HM3 HB3 HS3
    obtain ⟨l4, hl4⟩ : ∃ l4, [] ++ be16 id ++ be16 fb = l4 := ⟨_, rfl⟩
    have hl4n : l4.length = 4 := by rw [← hl4]; rfl
    have hR3 := Kd.R_lower (slice_MR HM3.out) HS2.out.size
    rw [hl4] at hR3 ⊢
    have HR3 := Kp.mk hR3
    have HL4 := Kp.mk hl4
    have HL4N := Kp.mk hl4n
    have Hg3 := Kp.mk ((HS3.out.below.block _ (heap_lt Hg1.out)).trans Hg1.out)
    clear HC2 HM2 HB2 HC3 HM3 HB3 HS2 hR3 hl4 hl4n hc2 hcm2 hc3 hcm3 HSb g0 HFB2
    have g5 := blk_cell Hg3.out 5
    have g6 := blk_cell Hg3.out 6
    have g7 := blk_cell Hg3.out 7
    have g8 := blk_cell Hg3.out 8
    have ha1 : an.length ≤ 64 := by have := HALS.out; omega
    have ha2 : au.length ≤ 64 := by have := HALS.out; omega
    have ha3 : ex.length ≤ 64 := by have := HALS.out; omega
    go_wp2_with (fail)
    go_loopw [6, 89] (fun v i wr => ∃ (k : Nat) (Ah : Option Addr) (ch : Nat), k ≤ 4 ∧ i = .int .i64 k ∧ v = .slice Ah (hdM l4 qs.length an.length au.length ex.length k).length ch ∧ Kp ((Kd.int .u8).R 5 wr wc.heap.size (fun _ => True) (.slice Ah (hdM l4 qs.length an.length au.length ex.length k).length ch) (hdM l4 qs.length an.length au.length ex.length k)) ∧ Kp (St wc wr)) (fun _ i _ => 4 - (intOf i).toNat)
    case atStart => exact ⟨0, A3, c3, by decide, rfl, rfl, HR3, HS3⟩
    case round =>
      obtain ⟨k, Ah, ch, hk, rfl, rfl, HRh, HSr⟩ := hrel
      match k, hk with
      | 0, _ =>
        have hix := (run_index_four qs.length an.length au.length ex.length wr).1
        have HP := Kp.mk (put16_calls Ah _ ch (hdM l4 qs.length an.length au.length ex.length 0) qs.length wr (R_C HRh.out).1 (R_C HRh.out).2 (by have := HL4N.out; simp [hdM, be16]; omega) (by omega) (by omega))
        clear HR3 HS3 Hg3 g5 g6 g7 g8
        go_wp2_with (fail)
        refine gs_ HP.out HSr ?_
        intro A4 c4 w4 hc4 hcm4 HC4 HM4 HB4 HS4
        go_wp2
        exact ⟨⟨1, A4, c4, by decide, by go_num, (by rw [← List.length_append]; rfl), ⟨Kd.R_lower (slice_MR HM4.out) HSr.out.size⟩, HS4⟩, by simp [intOf]⟩
      | 1, _ =>
        have hix := (run_index_four qs.length an.length au.length ex.length wr).2.1
        have HP := Kp.mk (put16_calls Ah _ ch (hdM l4 qs.length an.length au.length ex.length 1) an.length wr (R_C HRh.out).1 (R_C HRh.out).2 (by have := HL4N.out; simp [hdM, be16]; omega) (by omega) (by omega))
        clear HR3 HS3 Hg3 g5 g6 g7 g8
        go_wp2_with (fail)
        refine gs_ HP.out HSr ?_
        intro A4 c4 w4 hc4 hcm4 HC4 HM4 HB4 HS4
        go_wp2
        exact ⟨⟨2, A4, c4, by decide, by go_num, (by rw [← List.length_append]; rfl), ⟨Kd.R_lower (slice_MR HM4.out) HSr.out.size⟩, HS4⟩, by simp [intOf]⟩
      | 2, _ =>
        have hix := (run_index_four qs.length an.length au.length ex.length wr).2.2.1
        have HP := Kp.mk (put16_calls Ah _ ch (hdM l4 qs.length an.length au.length ex.length 2) au.length wr (R_C HRh.out).1 (R_C HRh.out).2 (by have := HL4N.out; simp [hdM, be16]; omega) (by omega) (by omega))
        clear HR3 HS3 Hg3 g5 g6 g7 g8
        go_wp2_with (fail)
        refine gs_ HP.out HSr ?_
        intro A4 c4 w4 hc4 hcm4 HC4 HM4 HB4 HS4
        go_wp2
        exact ⟨⟨3, A4, c4, by decide, by go_num, (by rw [← List.length_append]; rfl), ⟨Kd.R_lower (slice_MR HM4.out) HSr.out.size⟩, HS4⟩, by simp [intOf]⟩
      | 3, _ =>
        have hix := (run_index_four qs.length an.length au.length ex.length wr).2.2.2
        have HP := Kp.mk (put16_calls Ah _ ch (hdM l4 qs.length an.length au.length ex.length 3) ex.length wr (R_C HRh.out).1 (R_C HRh.out).2 (by have := HL4N.out; simp [hdM, be16]; omega) (by omega) (by omega))
        clear HR3 HS3 Hg3 g5 g6 g7 g8
        go_wp2_with (fail)
        refine gs_ HP.out HSr ?_
        intro A4 c4 w4 hc4 hcm4 HC4 HM4 HB4 HS4
        go_wp2
        exact ⟨⟨4, A4, c4, by decide, by go_num, (by rw [← List.length_append]; rfl), ⟨Kd.R_lower (slice_MR HM4.out) HSr.out.size⟩, HS4⟩, by simp [intOf]⟩
      | 4, _ =>
        rw [show (Value.int .i64 ((4 : Nat) : Int)) = Value.int .i64 4 from rfl]
        obtain ⟨hd, hhd⟩ : ∃ hd, hdM l4 qs.length an.length au.length ex.length 4 = hd := ⟨_, rfl⟩
        have hhm : Msg.head ⟨id, rp, op, co, fl, qs, an, au, ex⟩ = hd := by rw [← hhd, ← HL4.out]; unfold Msg.head hdM; rw [HFB.out]; rfl
        have hhl : hd.length = 12 := by rw [← hhd]; simp [hdM, be16, HL4N.out]
        rw [hhd] at HRh ⊢
        have HHM := Kp.mk hhm
        have Hgr := Kp.mk ((HSr.out.below.block _ (heap_lt Hg1.out)).trans Hg1.out)
        obtain ⟨P, hP0, hPs, hPn⟩ := pre_ex Qu.wire hd qs
        have HP0 := Kp.mk hP0
        have HPs := Kp.mk hPs
        have HPn := Kp.mk hPn
        have HHL := Kp.mk hhl
        have HB1 := Kp.mk HS1.out.below
        have HRh0 : Kp ((Kd.int .u8).R 5 wr wc.heap.size (fun _ => True) (.slice Ah (P 0).length ch) (P 0)) := ⟨by rw [HP0.out]; exact HRh.out⟩
        have hs0 : hd.length = (P 0).length := by rw [hP0]
        rw [hs0]
        clear HR3 HS3 Hg3 g5 g6 g7 g8 hhd hhm hhl hP0 hPs hPn hs0 HRh
        have g5 := blk_cell Hgr.out 5
        go_wp2_with (fail)
        go_loopw [6, 99] (fun v i w2 => ∃ (k : Nat) (A2 : Option Addr) (c2 : Nat), k ≤ qs.length ∧ i = .int .i64 k ∧ v = .slice A2 (P k).length c2 ∧ Kp ((Kd.int .u8).R 5 w2 wc.heap.size (fun _ => True) (.slice A2 (P k).length c2) (P k)) ∧ Kp (St wc w2) ∧ Kp (∀ (j : Nat) (q : Qu), j < k → qs[j]? = some q → q.right = true) ∧ Kp ((P k).length ≤ 12 + 260 * k)) (fun _ i _ => qs.length - (intOf i).toNat)
        case atStart => exact ⟨0, Ah, ch, Nat.zero_le _, rfl, rfl, HRh0, HSr, ⟨fun j q hj => absurd hj (Nat.not_lt_zero _)⟩, ⟨by rw [HP0.out, HHL.out]; omega⟩⟩
        case round =>
          obtain ⟨k, A2, c2, hk2, rfl, rfl, HR2, HS2, HOKq, HLk⟩ := hrel
          by_cases hlt : k < qs.length
          · obtain ⟨ad, rfl, d0, d1, d2⟩ := at_qu (Kd.C_below (Kd.C_below H5.out HB1.out) HS2.out.below) k hlt
            have hget : qs[k]? = some (qs.getD k Qu.zero) := by rw [List.getD_eq_getElem?_getD, List.getElem?_eq_getElem hlt]; rfl
            have hqm := HQ.out _ (getD_mem qs Qu.zero k hlt)
            obtain ⟨q, hqe⟩ : ∃ q, qs.getD k Qu.zero = q := ⟨_, rfl⟩
            rw [hqe] at d0 d1 d2 hget hqm
            obtain ⟨qn, qt, qc⟩ := q
            have HGET := Kp.mk hget
            have HMEM := Kp.mk (List.mem_of_getElem? hget)
            have HSq := Kp.mk (HS2.out.alloc (.cells #[.string (mkB qn), .int .i64 qt, .int .i64 qc] 30))
            clear hqe hget g5
            dsimp only at d0 d1 d2 hqm
            go_wp2_with (fail)
            refine g2_ (wq_calls ⟨qn, qt, qc⟩ _ HSq.out.env hqm) HSq ?_
            intro v3 v3e w3 HM3 HE3 HB3 HS3
            have HSc := Kp.mk HSq.out
            clear d0 d1 d2 HSq
            by_cases hqr : Qu.right ⟨qn, qt, qc⟩ = true
            · have hm := HM3.out
              have he := HE3.out
              rw [if_pos hqr] at hm he
              obtain rfl := er_open_none (erK.K_of_M he)
              obtain ⟨A3', c3', rfl, hc3', hC3'⟩ := slice_open ((Kd.slice 5 (Kd.int .u8)).K_of_M hm)
              have hwl := wireQ_le _ hqr
              have hps := HPs.out k _ HGET.out
              obtain ⟨wq, hwq⟩ : ∃ wq, Qu.wire ⟨qn, qt, qc⟩ = wq := ⟨_, rfl⟩
              rw [hwq] at hwl hps hc3' hC3' ⊢
              have hPk := Kd.C_below (R_C HR2.out).1 (below_step ((Below.refl _ _).alloc (Nat.le_refl _) (.cells #[.string (mkB qn), .int .i64 qt, .int .i64 qc] 30)) HB3.out)
              have HCAT := Kp.mk (concat2_calls A2 A3' c2 c3' (P k) wq w3 hPk (R_C HR2.out).2 hC3' hc3' (by have := HLk.out; omega))
              have HSl := Kp.mk (HS3.out.alloc (.cells #[.slice A2 (P k).length c2, .slice A3' wq.length c3'] 22))
              have HPS := Kp.mk hps
              have hk1 : k + 1 ≤ qs.length := hlt
              have HLEN : Kp ((P (k + 1)).length ≤ 12 + 260 * (k + 1)) := ⟨by rw [hps, List.length_append]; have := HLk.out; omega⟩
              have HOK2 : Kp (∀ (j : Nat) (q : Qu), j < k + 1 → qs[j]? = some q → q.right = true) := ⟨fun j q hj hq => by
                by_cases hjk : j < k
                · exact HOKq.out j q hjk hq
                · obtain rfl : j = k := by omega
                  have h2 := HGET.out
                  rw [hq] at h2
                  injection h2 with h2
                  rw [h2]
                  exact hqr⟩
              have HME : Kp (qs.length - (k + 1) < qs.length - k) := ⟨by omega⟩
              clear hm he hwl hps hwq hPk hC3' HM3 HE3 hqr HR2 HLk HOKq HB3
              go_wp2_with (fail)
              refine gs_ HCAT.out HSl ?_
              intro A4 c4 w4 hc4 hcm4 HC4 HM4 HB4 HS4
              have HR4 := Kp.mk (Kd.R_lower (slice_MR HM4.out) HSl.out.size)
              rw [← HPS.out] at HR4 ⊢
              clear HC4 HM4 HB4 hc4 hcm4
              go_wp2
              refine ⟨⟨k + 1, A4, c4, hk1, by go_num, rfl, HR4, HS4, HOK2, HLEN⟩, ?_⟩
              have hi1 : (intOf (Value.int .i64 ((k : Int) + 1))).toNat = k + 1 := by simp [intOf] <;> omega
              have hi2 : (intOf (Value.int .i64 (k : Int))).toNat = k := by simp [intOf]
              rw [hi1, hi2]
              exact HME.out
            · have hm := HM3.out
              have he := HE3.out
              rw [if_neg hqr] at hm he
              obtain rfl := er_open_code (erK.K_of_M he)
              obtain ⟨A3', c3', rfl, -, -⟩ := slice_open ((Kd.slice 5 (Kd.int .u8)).K_of_M hm)
              obtain ⟨rfl, rfl⟩ : ([] : List Int) = out ∧ Er.code 1 = er := by
                have h1 := qs_bad (m := ⟨id, rp, op, co, fl, qs, an, au, ex⟩) HOK.out HMEM.out (by simpa using hqr)
                rw [HW.out] at h1
                exact ⟨(congrArg Prod.fst h1).symm, (congrArg Prod.snd h1).symm⟩
              clear hm he HM3 HE3
              go_wp2
              go_ret2
              exact ⟨_, _, rfl, ⟨_, rfl, Kd.R_nil _ _ _ _ _⟩, er_code _ _ _ _, below_step HB1.out HS3.out.below⟩
          · obtain rfl : k = qs.length := by omega
            have hallq : (qs.all Qu.right) = true := List.all_eq_true.2 (fun q hq => by
              obtain ⟨j, hj, he⟩ := List.mem_iff_getElem.1 hq
              exact HOKq.out j q hj (by rw [List.getElem?_eq_getElem hj, he]))
            have HALLQ := Kp.mk hallq
            obtain ⟨l2, hl2⟩ : ∃ l2, P qs.length = l2 := ⟨_, rfl⟩
            have hl2e : l2 = hd ++ (qs.map Qu.wire).flatten := by rw [← hl2]; exact HPn.out
            rw [hl2] at HR2 HLk ⊢
            obtain ⟨O, hO0, hOs, hOn⟩ := pre_ex Rec.wire l2 al
            have HO0 := Kp.mk hO0
            have HOs := Kp.mk hOs
            have HOn := Kp.mk hOn
            have HL2 := Kp.mk hl2e
            have HRo : Kp ((Kd.int .u8).R 5 wr wc.heap.size (fun _ => True) (.slice A2 (O 0).length c2) (O 0)) := ⟨by rw [HO0.out]; exact HR2.out⟩
            have hs0 : l2.length = (O 0).length := by rw [hO0]
            have HLo : Kp ((O 0).length ≤ 20000) := ⟨by rw [hO0]; have := HLk.out; omega⟩
            rw [hs0]
            clear hallq hl2 hl2e hO0 hOs hOn hs0 HR2 HLk HRh0 HPs HP0 HPn hlt hk2 HOKq g5
            go_wp2_with (fail)
            go_loopw [6, 118] (fun v i w2 => ∃ (k : Nat) (A2 : Option Addr) (c2 : Nat), k ≤ al.length ∧ i = .int .i64 k ∧ v = .slice A2 (O k).length c2 ∧ Kp ((Kd.int .u8).R 5 w2 wc.heap.size (fun _ => True) (.slice A2 (O k).length c2) (O k)) ∧ Kp (St wc w2) ∧ Kp (∀ (j : Nat) (r : Rec), j < k → al[j]? = some r → r.right = true) ∧ Kp ((O k).length ≤ 20000 + 1300 * k)) (fun _ i _ => al.length - (intOf i).toNat)
            case atStart => exact ⟨0, A2, c2, Nat.zero_le _, rfl, rfl, HRo, HS2, ⟨fun j r hj => absurd hj (Nat.not_lt_zero _)⟩, ⟨by have := HLo.out; omega⟩⟩
            case round =>
              obtain ⟨k, A2, c2, hk3, rfl, rfl, HR3, HS3, HOKr, HLr⟩ := hrel
              by_cases hlt : k < al.length
              · obtain ⟨ad, cs, rfl, -, hK, hcell⟩ := Kd.C_get (Kd.C_below HC1.out HS3.out.below) Rec.zero (k : Int) (by omega) (by omega)
                rw [Int.toNat_natCast] at hK hcell
                obtain ⟨g, rfl⟩ := HPL.out ad rfl
                have hget : al[k]? = some (al.getD k Rec.zero) := by rw [List.getD_eq_getElem?_getD, List.getElem?_eq_getElem hlt]; rfl
                have hfit := HRF.out (al.getD k Rec.zero) (by rw [HAL.out]; exact getD_mem al Rec.zero k hlt)
                obtain ⟨r, hre⟩ : ∃ r, al.getD k Rec.zero = r := ⟨_, rfl⟩
                rw [hre] at hK hget hfit
                obtain ⟨rn, rt, rc, rtl, ⟨v6, b⟩, rtg, rd⟩ := r
                obtain ⟨Ar, cr, rfl, hdr, hCr⟩ := recK_open hK
                have e23 : recK.sz = 23 := rfl
                rw [e23] at hcell
                have HRG : Kp (wr.rangeAt g (k * 23) [.string (mkB rn), .int .i64 rt, .int .i64 rc, .int .u32 rtl, .bool v6, .int .u8 (b 0), .int .u8 (b 1), .int .u8 (b 2), .int .u8 (b 3), .int .u8 (b 4), .int .u8 (b 5), .int .u8 (b 6), .int .u8 (b 7), .int .u8 (b 8), .int .u8 (b 9), .int .u8 (b 10), .int .u8 (b 11), .int .u8 (b 12), .int .u8 (b 13), .int .u8 (b 14), .int .u8 (b 15), .string (mkB rtg), .slice Ar rd.length cr]) := ⟨fun j v hj => by have := hcell j v hj; rw [add_plain] at this; exact this⟩
                have HGET := Kp.mk hget
                have HMEM := Kp.mk (List.mem_of_getElem? hget)
                have HFIT := Kp.mk hfit
                have HCr := Kp.mk hCr
                have HZ := Kp.mk (HS3.out.below.alloc HS3.out.size (.cells #[.string ⟨#[]⟩, .int .i64 0, .int .i64 0, .int .u32 0, .bool false, .int .u8 0, .int .u8 0, .int .u8 0, .int .u8 0, .int .u8 0, .int .u8 0, .int .u8 0, .int .u8 0, .int .u8 0, .int .u8 0, .int .u8 0, .int .u8 0, .int .u8 0, .int .u8 0, .int .u8 0, .int .u8 0, .string ⟨#[]⟩, .slice none 0 0] 28))
                clear hre hget hK hcell e23 hfit hCr
                dsimp only at hdr
                go_wp2_with (first
                  | (with_reducible refine wpList_load_mid rfl 28 (.tmp 120) rfl g (k * 23) rfl _ _ HRG.out Tryz.underlying28 (by kernel_rfl) (by kernel_rfl) ?_)
                  | (with_reducible refine st_blk (w0 := wc) (base := wc.heap.size) rfl 28 (.tmp 14) (.tmp 121) rfl rfl wr.heap.size _ rfl rfl ⟨heap_new _ _⟩ (by kernel_rfl) (by kernel_rfl) (by kernel_rfl) HZ HS3.out.size ?_))
                intro w3 Hg3 HO3 HB3 hs3
                have hB23 := stored_new HS3.out.below HB3.out (hs3.trans (by simp)) HO3.out
                have HSr := Kp.mk (HS3.out.step hB23)
                have HCr3 := Kp.mk (Kd.C_below HCr.out hB23)
                have HO3 := Kp.mk (Kd.C_below (R_C HR3.out).1 hB23)
                have hOc := (R_C HR3.out).2
                clear hs3 hB23 HB3 HZ HCr HRG HR3
                go_wp2_with (with_reducible refine ld_blk rfl 28 (.tmp 14) rfl wr.heap.size rfl Hg3 Tryz.underlying28 rfl (by kernel_rfl) ?_)
                refine g2_ (wr_calls ⟨rn, rt, rc, rtl, ⟨v6, b⟩, rtg, rd⟩ Ar cr _ HSr.out.env HCr3.out hdr HFIT.out) HSr ?_
                intro v4 v4e w4 HM4 HE4 HB4 HS4
                clear HCr3 Hg3
                by_cases hqr : Rec.right ⟨rn, rt, rc, rtl, ⟨v6, b⟩, rtg, rd⟩ = true
                · have hm := HM4.out
                  have he := HE4.out
                  rw [if_pos hqr] at hm he
                  obtain rfl := er_open_none (erK.K_of_M he)
                  obtain ⟨A3', c3', rfl, hc3', hC3'⟩ := slice_open ((Kd.slice 5 (Kd.int .u8)).K_of_M hm)
                  have hwl := wire_le _ hqr
                  have hps := HOs.out k _ HGET.out
                  obtain ⟨wq, hwq⟩ : ∃ wq, Rec.wire ⟨rn, rt, rc, rtl, ⟨v6, b⟩, rtg, rd⟩ = wq := ⟨_, rfl⟩
                  rw [hwq] at hwl hps hc3' hC3' ⊢
                  have hk1 : k + 1 ≤ al.length := hlt
                  have HCAT := Kp.mk (concat2_calls A2 A3' c2 c3' (O k) wq w4 (Kd.C_below HO3.out HB4.out) hOc hC3' hc3' (by have := HLr.out; omega))
                  have HSl := Kp.mk (HS4.out.alloc (.cells #[.slice A2 (O k).length c2, .slice A3' wq.length c3'] 22))
                  have HPS := Kp.mk hps
                  have HLEN : Kp ((O (k + 1)).length ≤ 20000 + 1300 * (k + 1)) := ⟨by rw [hps, List.length_append]; have := HLr.out; omega⟩
                  have HOK2 : Kp (∀ (j : Nat) (r : Rec), j < k + 1 → al[j]? = some r → r.right = true) := ⟨fun j q hj hq => by
                    by_cases hjk : j < k
                    · exact HOKr.out j q hjk hq
                    · obtain rfl : j = k := by omega
                      have h2 := HGET.out
                      rw [hq] at h2
                      injection h2 with h2
                      rw [h2]
                      exact hqr⟩
                  have HME : Kp (al.length - (k + 1) < al.length - k) := ⟨by omega⟩
                  clear hm he hwl hps hwq hC3' HM4 HE4 hqr HLr HOKr HB4 HO3
                  go_wp2_with (fail)
                  refine gs_ HCAT.out HSl ?_
                  intro A4 c4 w5 hc4 hcm4 HC4 HM5 HB5 HS5
                  have HR5 := Kp.mk (Kd.R_lower (slice_MR HM5.out) HSl.out.size)
                  rw [← HPS.out] at HR5 ⊢
                  clear HC4 HM5 HB5 hc4 hcm4
                  go_wp2
                  refine ⟨⟨k + 1, A4, c4, hk1, by go_num, rfl, HR5, HS5, HOK2, HLEN⟩, ?_⟩
                  have hi1 : (intOf (Value.int .i64 ((k : Int) + 1))).toNat = k + 1 := by simp [intOf] <;> omega
                  have hi2 : (intOf (Value.int .i64 (k : Int))).toNat = k := by simp [intOf]
                  rw [hi1, hi2]
                  exact HME.out
                · have hm := HM4.out
                  have he := HE4.out
                  rw [if_neg hqr] at hm he
                  obtain rfl := er_open_code (erK.K_of_M he)
                  obtain ⟨A3', c3', rfl, -, -⟩ := slice_open ((Kd.slice 5 (Kd.int .u8)).K_of_M hm)
                  obtain ⟨rfl, rfl⟩ : ([] : List Int) = out ∧ Er.code 1 = er := by
                    have h1 := rs_bad (m := ⟨id, rp, op, co, fl, qs, an, au, ex⟩) HOK.out HALLQ.out (by rw [HAL.out]; exact HMEM.out) (by simpa using hqr)
                    rw [HW.out] at h1
                    exact ⟨(congrArg Prod.fst h1).symm, (congrArg Prod.snd h1).symm⟩
                  clear hm he HM4 HE4
                  go_wp2
                  go_ret2
                  exact ⟨_, _, rfl, ⟨_, rfl, Kd.R_nil _ _ _ _ _⟩, er_code _ _ _ _, below_step HB1.out HS4.out.below⟩
              · obtain rfl : k = al.length := by omega
                have hallr : (al.all Rec.right) = true := List.all_eq_true.2 (fun r hr => by
                  obtain ⟨j, hj, he⟩ := List.mem_iff_getElem.1 hr
                  exact HOKr.out j r hj (by rw [List.getElem?_eq_getElem hj, he]))
                obtain ⟨ws, hws⟩ : ∃ ws, O al.length = ws := ⟨_, rfl⟩
                have hwire : Msg.wire ⟨id, rp, op, co, fl, qs, an, au, ex⟩ = ws := by
                  rw [← hws, HOn.out, HL2.out, ← HHM.out, ← HAL.out]
                  rfl
                have hfin : (out, er) = if 4000 < ws.length then ([], .code 4) else (ws, .none) := by
                  rw [← HW.out]
                  unfold writeM
                  rw [if_neg (by rw [HOK.out]; simp), if_neg (by show ¬ (qs.all Qu.right) = false; rw [HALLQ.out]; simp), if_neg (by rw [HAL.out, hallr]; simp), hwire]
                rw [hws] at HR3 ⊢
                have HFIN := Kp.mk hfin
                clear hallr hwire hfin hws HOs HOn HO0 HRo HLo HLr HOKr hlt hk3
                by_cases hbig : 4000 < ws.length
                · have bb : decide ((4000 : Int) < (ws.length : Int)) = true := by simp; omega
                  obtain ⟨rfl, rfl⟩ : out = [] ∧ er = Er.code 4 := by
                    have h1 := HFIN.out
                    rw [if_pos hbig] at h1
                    exact ⟨congrArg Prod.fst h1, congrArg Prod.snd h1⟩
                  go_wp2
                  go_ret2
                  exact ⟨_, _, rfl, ⟨_, rfl, Kd.R_nil _ _ _ _ _⟩, er_code _ _ _ _, below_step HB1.out HS3.out.below⟩
                · have bb : decide ((4000 : Int) < (ws.length : Int)) = false := by simp; omega
                  obtain ⟨rfl, rfl⟩ : out = ws ∧ er = Er.none := by
                    have h1 := HFIN.out
                    rw [if_neg hbig] at h1
                    exact ⟨congrArg Prod.fst h1, congrArg Prod.snd h1⟩
                  go_wp2
                  go_ret2
                  exact ⟨_, _, rfl, ⟨_, rfl, Kd.R_lower HR3.out HB1.out.size⟩, er_none _ _ _, below_step HB1.out HS3.out.below⟩
end Go.Proofs.YtlkneoednkhleaaGreatDoor

namespace Go.Proofs.YtlkneoednkhleaaGreatDoor
open Go.RowKit Go.Proofs.YtlkneoednkhleaaGreatDoorW.PrintWords
set_option linter.unusedVariables false
set_option linter.unusedSimpArgs false
set_option maxRecDepth 100000
set_option maxHeartbeats 2000000

/-- A head with nothing behind it. -/
def bare14 (N M : Nat) : List Int := [(N : Int) / 256, (N : Int) % 256, (M : Int) / 256, (M : Int) % 256, 0, 0, 0, 0, 0, 0, 0, 0]
def headOf (N M : Nat) : Msg := ⟨N, (M : Int) / 32768 == 1, (M : Int) / 2048 % 16, (M : Int) % 16, (M : Int) / 16 % 128, [], [], [], []⟩
theorem num_lit (pre ys post : List Int) (a n : Int) (ha : a = pre.length) (hn : n = ys.length) : numV (pre ++ (ys ++ post)) a n = be ys := by
  subst ha hn
  unfold numV
  rw [askE_ok (by omega) (by omega) (by simp only [List.length_append]; omega), if_pos rfl, Int.toNat_natCast, Int.toNat_natCast, List.drop_left' rfl, List.take_left' rfl]
theorem parse_bare (N M : Nat) (h1 : N ≤ 65535) (h2 : M ≤ 65535) : parseM (bare14 N M) = (headOf N M, .none) := by
  have hl : (bare14 N M).length = 12 := rfl
  have n0 : numV (bare14 N M) 0 2 = N := (num_lit [] [(N : Int) / 256, (N : Int) % 256] [(M : Int) / 256, (M : Int) % 256, 0, 0, 0, 0, 0, 0, 0, 0] 0 2 rfl rfl).trans (by rw [be_two]; omega)
  have n2 : numV (bare14 N M) 2 2 = M := (num_lit [(N : Int) / 256, (N : Int) % 256] [(M : Int) / 256, (M : Int) % 256] [0, 0, 0, 0, 0, 0, 0, 0] 2 2 rfl rfl).trans (by rw [be_two]; omega)
  have n4 : cntM (bare14 N M) 4 = 0 := by unfold cntM; rw [show numV (bare14 N M) 4 2 = be [0, 0] from num_lit [(N : Int) / 256, (N : Int) % 256, (M : Int) / 256, (M : Int) % 256] [0, 0] [0, 0, 0, 0, 0, 0] 4 2 rfl rfl]; rfl
  have n6 : cntM (bare14 N M) 6 = 0 := by unfold cntM; rw [show numV (bare14 N M) 6 2 = be [0, 0] from num_lit [(N : Int) / 256, (N : Int) % 256, (M : Int) / 256, (M : Int) % 256, 0, 0] [0, 0] [0, 0, 0, 0] 6 2 rfl rfl]; rfl
  have n8 : cntM (bare14 N M) 8 = 0 := by unfold cntM; rw [show numV (bare14 N M) 8 2 = be [0, 0] from num_lit [(N : Int) / 256, (N : Int) % 256, (M : Int) / 256, (M : Int) % 256, 0, 0, 0, 0] [0, 0] [0, 0] 8 2 rfl rfl]; rfl
  have n10 : cntM (bare14 N M) 10 = 0 := by unfold cntM; rw [show numV (bare14 N M) 10 2 = be [0, 0] from num_lit [(N : Int) / 256, (N : Int) % 256, (M : Int) / 256, (M : Int) % 256, 0, 0, 0, 0, 0, 0] [0, 0] [] 10 2 rfl rfl]; rfl
  have hb : bodyR (bare14 N M) 0 0 0 0 = (([], [], [], []), 12, .none) := by
    simp [bodyR, bodyR1, bodyR2, bodyR3, qsR, rsR]
  unfold parseM
  rw [n4, n6, n8, n10, hl, hb, if_neg (by decide), if_neg (by decide), if_neg (by decide), if_neg (by decide), if_neg (by decide)]
  unfold headM headOf
  rw [n0, n2]
theorem bits_head (N M : Nat) (h2 : M ≤ 65535) : (headOf N M).bits = M := by
  unfold Msg.bits headOf
  dsimp only
  by_cases h : (M : Int) / 32768 = 1
  · rw [if_pos (by simpa using h)]; omega
  · rw [if_neg (by simpa using h)]; omega
theorem write_bare (N M : Nat) (h1 : N ≤ 65535) (h2 : M ≤ 65535) : writeM (headOf N M) = (bare14 N M, .none) := by
  have hw : (headOf N M).wire = bare14 N M := by
    unfold Msg.wire Msg.head
    rw [bits_head N M h2]
    simp [headOf, Msg.all, be16, bare14]
  have hok : (headOf N M).headOk = true := by
    unfold Msg.headOk headOf inB Msg.all
    simp only [Bool.and_eq_true, decide_eq_true_eq, List.length_nil, List.append_nil]
    omega
  unfold writeM
  rw [if_neg (by rw [hok]; simp), hw]
  rfl
theorem bare_byts (N M : Nat) (h1 : N ≤ 65535) (h2 : M ≤ 65535) : Byts (bare14 N M) := by
  intro x hx
  simp only [bare14, List.mem_cons, List.not_mem_nil, or_false] at hx
  rcases hx with rfl | rfl | rfl | rfl | rfl | rfl | rfl | rfl | rfl | rfl | rfl | rfl <;> omega
theorem C_nil {α : Type} {d : Kd α} (w : World) (A : Option Addr) : d.C w A 0 [] := ⟨rfl, Nat.zero_le _, fun h => absurd h (Nat.lt_irrefl _)⟩
/-- Write, at a head with nothing behind it. -/
theorem write_bare_calls (N M : Nat) (c5 c6 c7 c8 : Nat) (A5 A6 A7 A8 : Option Addr) (w : World) (h1 : N ≤ 65535) (h2 : M ≤ 65535) (hE : Env w) :
    Calls Tryz.prog 29 #[.agg (msgA (headOf N M) (.slice A5 0 c5) (.slice A6 0 c6) (.slice A7 0 c7) (.slice A8 0 c8))] w (Gives2 bytesK erK (bare14 N M) .none w) :=
  write_calls (headOf N M) A5 A6 A7 A8 c5 c6 c7 c8 w (bare14 N M) .none hE (C_nil _ _) (Nat.zero_le _) (C_nil _ _) (Nat.zero_le _) (C_nil _ _) (Nat.zero_le _) (C_nil _ _) (Nat.zero_le _)
    (fun q hq => absurd hq (by simp [headOf])) (fun r hr => absurd hr (by simp [Msg.all, headOf])) (by show (0 + 0 + 0) * 96 ≤ 140737488355328; decide) (by show 0 ≤ 140737488355328; decide) (write_bare N M h1 h2)
theorem awake14_calls (w : World) (hE : Env w) : Calls Tryz.prog 25 #[] w fun e w' => e = .returned (.bool true) ∧ Below w.heap.size w w' := by
  have HS := Kp.mk (St.start hE)
  have HWR := Kp.mk (write_bare_calls 7 32768 0 0 0 0 none none none none w (by decide) (by decide) hE)
  have hb : bare14 7 32768 = [0, 7, 128, 0, 0, 0, 0, 0, 0, 0, 0, 0] := by decide
  have hh : headOf 7 32768 = ⟨7, true, 0, 0, 0, [], [], [], []⟩ := rfl
  have HPM := Kp.mk (parse_bare 7 32768 (by decide) (by decide))
  have HBY := Kp.mk (bare_byts 7 32768 (by decide) (by decide))
  rw [hb] at HWR HPM HBY
  rw [hh] at HWR HPM
  clear hE hb hh
  go_enter Tryz.func25, Tryz.ntmps25
  go_wp2_with (fail)
  refine g2sn_ HWR.out HS ?_
  intro A1 c1 w1 hc1 hcm1 HC1 HM1 HB1 HS1
  go_wp2_with (fail)
  refine (parse_calls A1 c1 _ w1 _ _ HC1.out HBY.out hc1 hcm1 HS1.out.env HPM.out).mono ?_
  rintro e2 w2 ⟨v5, v6, v7, v8, v, rfl, hR, hM, hB⟩
  obtain rfl := er_open_none (erK.K_of_M hM)
  obtain ⟨A5, c5, rfl⟩ := Kd.R_slice hR.qs
  obtain ⟨A6, c6, rfl⟩ := Kd.R_slice hR.an
  obtain ⟨A7, c7, rfl⟩ := Kd.R_slice hR.au
  obtain ⟨A8, c8, rfl⟩ := Kd.R_slice hR.ex
  have HS2 := Kp.mk (HS1.out.step hB)
  have HZ2 := Kp.mk (HS2.out.below.alloc HS2.out.size (.cells #[.int .i64 0, .bool false, .int .i64 0, .int .i64 0, .int .i64 0, .slice none 0 0, .slice none 0 0, .slice none 0 0, .slice none 0 0] 59))
  clear hR hM hB
  go_wp2_with (with_reducible refine st_blk (w0 := w) (base := w.heap.size) rfl 59 (.tmp 3) (.tmp 13) rfl rfl w2.heap.size _ rfl rfl ⟨heap_new _ _⟩ (by kernel_rfl) (by kernel_rfl) (by kernel_rfl) HZ2 HS2.out.size ?_)
  intro w3 Hg3 HO3 HB3 hs3
  have d0 := blk_cell Hg3.out 0
  have d1 := blk_cell Hg3.out 1
  clear hs3 HO3
  go_wp2
  go_ret
  exact ⟨rfl, HB3.out⟩
end Go.Proofs.YtlkneoednkhleaaGreatDoor

namespace Go.Proofs.YtlkneoednkhleaaGreatDoor
open Go.RowKit Go.Proofs.YtlkneoednkhleaaGreatDoorW.PrintWords
set_option linter.unusedVariables false
set_option linter.unusedSimpArgs false
set_option maxRecDepth 100000
set_option maxHeartbeats 2000000

theorem qsR_wire {xs : List Int} (qs : List Qu) (h : ∀ q ∈ qs, q.right = true) (acc : List Qu) {a : Int} {rest : List Int} (ha : 0 ≤ a) (hd : xs.drop a.toNat = (qs.map Qu.wire).flatten ++ rest) :
    qsR xs qs.length a acc = (acc ++ qs, a + (((qs.map Qu.wire).flatten.length : Nat) : Int), .none) := by
  induction qs generalizing acc a with
  | nil => simp [qsR]
  | cons q qs ih =>
    have hd1 : xs.drop a.toNat = q.wire ++ ((qs.map Qu.wire).flatten ++ rest) := by rw [hd]; simp
    have h1 := quR_drop q (h q (by simp)) ha hd1
    have hd2 := drop_more ha hd1
    have h2 := ih (fun p hp => h p (by simp [hp])) (acc ++ [q]) (by omega) hd2
    rw [List.length_cons, qsR, h1]
    dsimp only
    rw [if_neg (by simp), h2]
    simp only [List.append_assoc, List.singleton_append, List.map_cons, List.flatten_cons, List.length_append]
    congr 2
    omega
theorem rsR_wire {xs : List Int} (rs : List Rec) (h : ∀ r ∈ rs, r.right = true) (acc : List Rec) {a : Int} {rest : List Int} (ha : 0 ≤ a) (hd : xs.drop a.toNat = (rs.map Rec.wire).flatten ++ rest) :
    rsR xs rs.length a acc = (acc ++ rs.map Rec.norm, a + (((rs.map Rec.wire).flatten.length : Nat) : Int), .none) := by
  induction rs generalizing acc a with
  | nil => simp [rsR]
  | cons r rs ih =>
    have hd1 : xs.drop a.toNat = r.wire ++ ((rs.map Rec.wire).flatten ++ rest) := by rw [hd]; simp
    have h1 := back_rec r (h r (by simp)) ha hd1
    have hd2 := drop_more ha hd1
    have h2 := ih (fun p hp => h p (by simp [hp])) (acc ++ [r.norm]) (by omega) hd2
    rw [List.length_cons, rsR, h1]
    dsimp only
    rw [if_neg (by simp), h2]
    simp only [List.append_assoc, List.singleton_append, List.map_cons, List.flatten_cons, List.length_append]
    congr 2
    omega
/-- A message as it is parsed. -/
def Msg.norm (m : Msg) : Msg := { m with an := m.an.map Rec.norm, au := m.au.map Rec.norm, ex := m.ex.map Rec.norm }
theorem head_nums {xs R : List Int} {v0 v1 v2 v3 v4 v5 : Int} (h : xs = be16 v0 ++ be16 v1 ++ be16 v2 ++ be16 v3 ++ be16 v4 ++ be16 v5 ++ R) :
    numV xs 0 2 = v0 ∧ numV xs 2 2 = v1 ∧ numV xs 4 2 = v2 ∧ numV xs 6 2 = v3 ∧ numV xs 8 2 = v4 ∧ numV xs 10 2 = v5 ∧ xs.drop 12 = R ∧ xs.length = 12 + R.length := by
  subst h
  refine ⟨?_, ?_, ?_, ?_, ?_, ?_, rfl, by simp [be16]; omega⟩
  · exact (num_drop (a := 0) (n := 2) (ys := be16 v0) (rest := be16 v1 ++ be16 v2 ++ be16 v3 ++ be16 v4 ++ be16 v5 ++ R) (by decide) (by simp) rfl (by decide)).1.trans (be_be16 v0)
  · exact (num_drop (a := 2) (n := 2) (ys := be16 v1) (rest := be16 v2 ++ be16 v3 ++ be16 v4 ++ be16 v5 ++ R) (by decide) (by simp [be16]) rfl (by decide)).1.trans (be_be16 v1)
  · exact (num_drop (a := 4) (n := 2) (ys := be16 v2) (rest := be16 v3 ++ be16 v4 ++ be16 v5 ++ R) (by decide) (by simp [be16]) rfl (by decide)).1.trans (be_be16 v2)
  · exact (num_drop (a := 6) (n := 2) (ys := be16 v3) (rest := be16 v4 ++ be16 v5 ++ R) (by decide) (by simp [be16]) rfl (by decide)).1.trans (be_be16 v3)
  · exact (num_drop (a := 8) (n := 2) (ys := be16 v4) (rest := be16 v5 ++ R) (by decide) (by simp [be16]) rfl (by decide)).1.trans (be_be16 v4)
  · exact (num_drop (a := 10) (n := 2) (ys := be16 v5) (rest := R) (by decide) (by simp [be16]) rfl (by decide)).1.trans (be_be16 v5)
theorem body_wire {xs : List Int} (m : Msg) (hq : ∀ q ∈ m.qs, q.right = true) (hr : ∀ r ∈ m.all, r.right = true) {rest : List Int} (hd : xs.drop 12 = (m.qs.map Qu.wire).flatten ++ ((m.all.map Rec.wire).flatten ++ rest)) :
    bodyR xs m.qs.length m.an.length m.au.length m.ex.length = ((m.qs, m.norm.an, m.norm.au, m.norm.ex), 12 + ((((m.qs.map Qu.wire).flatten.length : Nat) : Int) + (((m.all.map Rec.wire).flatten.length : Nat) : Int)), .none) := by
  have hd0 : xs.drop (12 : Int).toNat = (m.qs.map Qu.wire).flatten ++ ((m.all.map Rec.wire).flatten ++ rest) := hd
  have h1 := qsR_wire m.qs hq [] (by decide) hd0
  have hd1 := drop_more (by decide) hd0
  have hs : (m.all.map Rec.wire).flatten ++ rest = (m.an.map Rec.wire).flatten ++ ((m.au.map Rec.wire).flatten ++ ((m.ex.map Rec.wire).flatten ++ rest)) := by simp [Msg.all]
  rw [hs] at hd1
  have h2 := rsR_wire m.an (fun r h => hr r (by simp [Msg.all, h])) [] (by omega) hd1
  have hd2 := drop_more (by omega) hd1
  have h3 := rsR_wire m.au (fun r h => hr r (by simp [Msg.all, h])) [] (by omega) hd2
  have hd3 := drop_more (by omega) hd2
  have h4 := rsR_wire m.ex (fun r h => hr r (by simp [Msg.all, h])) [] (by omega) hd3
  unfold bodyR
  rw [h1]
  dsimp only
  rw [if_neg (by simp)]
  unfold bodyR1
  rw [h2]
  dsimp only
  rw [if_neg (by simp)]
  unfold bodyR2
  rw [h3]
  dsimp only
  rw [if_neg (by simp)]
  unfold bodyR3
  rw [h4]
  dsimp only
  rw [if_neg (by simp)]
  simp only [List.nil_append, Msg.norm, Msg.all, List.map_append, List.flatten_append, List.length_append]
  congr 2
  omega
theorem headOk_mk {m : Msg} (h : m.headOk = true) : (0 ≤ m.id ∧ m.id ≤ 65535) ∧ (0 ≤ m.op ∧ m.op ≤ 15) ∧ (0 ≤ m.co ∧ m.co ≤ 15) ∧ (0 ≤ m.fl ∧ m.fl ≤ 127) ∧ m.qs.length + m.all.length ≤ 64 := by
  unfold Msg.headOk inB at h
  simpa [and_assoc] using h
/-- What is written is parsed; with bytes behind it, it is told as wrong at their place. -/
theorem parse_wire (m : Msg) (more : List Int) (hok : m.headOk = true) (hq : ∀ q ∈ m.qs, q.right = true) (hr : ∀ r ∈ m.all, r.right = true) (hlen : (m.wire ++ more).length ≤ 4000) :
    parseM (m.wire ++ more) = if more = [] then (m.norm, .none) else (Msg.zero, .fault m.wire.length 7) := by
  obtain ⟨k0, k1, k2, k3, k4⟩ := headOk_mk hok
  have hal : m.all.length = m.an.length + m.au.length + m.ex.length := by unfold Msg.all; rw [List.length_append, List.length_append]
  have hx : m.wire ++ more = be16 m.id ++ be16 m.bits ++ be16 m.qs.length ++ be16 m.an.length ++ be16 m.au.length ++ be16 m.ex.length ++ ((m.qs.map Qu.wire).flatten ++ ((m.all.map Rec.wire).flatten ++ more)) := by
    unfold Msg.wire Msg.head
    simp only [List.append_assoc]
  obtain ⟨n0, n1, n2, n3, n4, n5, hd, hl⟩ := head_nums hx
  have hb := body_wire m hq hr hd
  have c2 : cntM (m.wire ++ more) 4 = m.qs.length := by unfold cntM; rw [n2]; exact Int.toNat_natCast _
  have c3 : cntM (m.wire ++ more) 6 = m.an.length := by unfold cntM; rw [n3]; exact Int.toNat_natCast _
  have c4 : cntM (m.wire ++ more) 8 = m.au.length := by unfold cntM; rw [n4]; exact Int.toNat_natCast _
  have c5 : cntM (m.wire ++ more) 10 = m.ex.length := by unfold cntM; rw [n5]; exact Int.toNat_natCast _
  have hwl : m.wire.length = 12 + ((m.qs.map Qu.wire).flatten.length + (m.all.map Rec.wire).flatten.length) := by
    unfold Msg.wire Msg.head
    simp only [List.length_append]
    show 2 + 2 + 2 + 2 + 2 + 2 + _ + _ = _
    omega
  unfold parseM
  rw [c2, c3, c4, c5, if_neg (by omega), if_neg (by omega), if_neg (by omega), hb]
  dsimp only
  rw [if_neg (by simp [Er.placed])]
  by_cases hm : more = []
  · subst hm
    rw [if_neg (by rw [List.length_append]; simp only [List.length_nil]; omega), if_pos rfl]
    unfold headM
    rw [n0, n1]
    have hbits : m.bits = m.op * 2048 + m.fl * 16 + m.co + (if m.rp then 32768 else 0) := rfl
    have e1 : (m.bits / 32768 == 1) = m.rp := by
      rw [hbits]
      cases m.rp
      · rw [if_neg (by decide)]; simp; omega
      · rw [if_pos rfl]; simp; omega
    have e2 : m.bits / 2048 % 16 = m.op := by rw [hbits]; split <;> omega
    have e3 : m.bits % 16 = m.co := by rw [hbits]; split <;> omega
    have e4 : m.bits / 16 % 128 = m.fl := by rw [hbits]; split <;> omega
    rw [e1, e2, e3, e4]
    rfl
  · have hp : 0 < more.length := List.length_pos_iff.2 hm
    rw [if_pos (by rw [List.length_append]; omega), if_neg hm]
    congr 2
    omega
end Go.Proofs.YtlkneoednkhleaaGreatDoor

namespace Go.Proofs.YtlkneoednkhleaaGreatDoor
open Go.RowKit Go.Proofs.YtlkneoednkhleaaGreatDoorW.PrintWords
set_option linter.unusedVariables false
set_option linter.unusedSimpArgs false
set_option maxRecDepth 100000
set_option maxHeartbeats 2000000

theorem qsR_cut {xs : List Int} (qs : List Qu) (h : ∀ q ∈ qs, q.right = true) (acc : List Qu) {a k : Nat} {R : List Int} (hk : k < (qs.map Qu.wire).flatten.length) (hd : xs.drop a = ((qs.map Qu.wire).flatten ++ R).take k) (hl : xs.length = a + k) :
    (qsR xs qs.length (a : Int) acc).2.2 ≠ .none := by
  induction qs generalizing acc a k with
  | nil => simp at hk
  | cons q qs ih =>
    have hq := h q (by simp)
    have hassoc : ((q :: qs).map Qu.wire).flatten ++ R = q.wire ++ ((qs.map Qu.wire).flatten ++ R) := by simp
    rw [hassoc] at hd
    rw [List.length_cons, qsR]
    by_cases c1 : k < q.wire.length
    · obtain ⟨er, he, hn⟩ := quR_cut q hq c1 hd hl
      have hne : er ≠ .none := by intro h; rw [h] at hn; exact absurd hn (by decide)
      rw [he]
      dsimp only
      rw [if_pos hne]
      exact hne
    · have hd1 : xs.drop (a : Int).toNat = q.wire ++ (((qs.map Qu.wire).flatten ++ R).take (k - q.wire.length)) := by
        rw [Int.toNat_natCast, hd, take_app_ge _ _ _ (by omega)]
      have h1 := quR_drop q hq (by omega) hd1
      have hd2 := drop_more (by omega) hd1
      have e : (a : Int) + (q.wire.length : Int) = ((a + q.wire.length : Nat) : Int) := by omega
      rw [e, Int.toNat_natCast] at hd2
      have hk2 : k - q.wire.length < (qs.map Qu.wire).flatten.length := by
        simp only [List.map_cons, List.flatten_cons, List.length_append] at hk
        omega
      have h2 := ih (fun p hp => h p (by simp [hp])) (acc ++ [q]) hk2 hd2 (by omega)
      rw [h1]
      dsimp only
      rw [if_neg (by simp), e]
      exact h2
theorem rsR_cut {xs : List Int} (rs : List Rec) (h : ∀ r ∈ rs, r.right = true) (acc : List Rec) {a k : Nat} {R : List Int} (hk : k < (rs.map Rec.wire).flatten.length) (hd : xs.drop a = ((rs.map Rec.wire).flatten ++ R).take k) (hl : xs.length = a + k) :
    (rsR xs rs.length (a : Int) acc).2.2 ≠ .none := by
  induction rs generalizing acc a k with
  | nil => simp at hk
  | cons r rs ih =>
    have hr := h r (by simp)
    have hassoc : ((r :: rs).map Rec.wire).flatten ++ R = r.wire ++ ((rs.map Rec.wire).flatten ++ R) := by simp
    rw [hassoc] at hd
    rw [List.length_cons, rsR]
    by_cases c1 : k < r.wire.length
    · obtain ⟨er, he, hn⟩ := recR_cut r hr c1 hd hl
      have hne : er ≠ .none := by intro h; rw [h] at hn; exact absurd hn (by decide)
      rw [he]
      dsimp only
      rw [if_pos hne]
      exact hne
    · have hd1 : xs.drop (a : Int).toNat = r.wire ++ (((rs.map Rec.wire).flatten ++ R).take (k - r.wire.length)) := by
        rw [Int.toNat_natCast, hd, take_app_ge _ _ _ (by omega)]
      have h1 := back_rec r hr (by omega) hd1
      have hd2 := drop_more (by omega) hd1
      have e : (a : Int) + (r.wire.length : Int) = ((a + r.wire.length : Nat) : Int) := by omega
      rw [e, Int.toNat_natCast] at hd2
      have hk2 : k - r.wire.length < (rs.map Rec.wire).flatten.length := by
        simp only [List.map_cons, List.flatten_cons, List.length_append] at hk
        omega
      have h2 := ih (fun p hp => h p (by simp [hp])) (acc ++ [r.norm]) hk2 hd2 (by omega)
      rw [h1]
      dsimp only
      rw [if_neg (by simp), e]
      exact h2
theorem bodyR_q {xs : List Int} {n0 n1 n2 n3 : Nat} (h : (qsR xs n0 12 []).2.2 ≠ .none) : (bodyR xs n0 n1 n2 n3).2.2 ≠ .none := by
  unfold bodyR
  rw [if_pos h]
  exact h
/-- A message that is cut is none. -/
theorem parse_cut (m : Msg) (hok : m.headOk = true) (hq : ∀ q ∈ m.qs, q.right = true) (hr : ∀ r ∈ m.all, r.right = true) (hlen : m.wire.length ≤ 4000) (C : Nat) (hC : C < m.wire.length) :
    ∃ er, parseM (m.wire.take C) = (Msg.zero, er) ∧ er ≠ .none := by
  obtain ⟨k0, k1, k2, k3, k4⟩ := headOk_mk hok
  have hal : m.all.length = m.an.length + m.au.length + m.ex.length := by unfold Msg.all; rw [List.length_append, List.length_append]
  have hl : (m.wire.take C).length = C := by rw [List.length_take]; omega
  by_cases c0 : C < 12
  · refine ⟨.fault 0 3, ?_, by simp⟩
    unfold parseM
    rw [if_neg (by rw [hl]; omega), if_pos (by rw [hl]; exact c0)]
  have hw : m.wire = m.head ++ ((m.qs.map Qu.wire).flatten ++ (m.all.map Rec.wire).flatten) := by unfold Msg.wire; rw [List.append_assoc]
  have hhl : m.head.length = 12 := rfl
  have hwl : m.wire.length = 12 + ((m.qs.map Qu.wire).flatten.length + (m.all.map Rec.wire).flatten.length) := by
    rw [hw, List.length_append, List.length_append, hhl]
  have hx : m.wire.take C = be16 m.id ++ be16 m.bits ++ be16 m.qs.length ++ be16 m.an.length ++ be16 m.au.length ++ be16 m.ex.length ++ (((m.qs.map Qu.wire).flatten ++ (m.all.map Rec.wire).flatten).take (C - 12)) := by
    rw [hw, take_app_ge _ _ _ (by rw [hhl]; omega), hhl]
    rfl
  obtain ⟨n0, n1, n2, n3, n4, n5, hd, hl2⟩ := head_nums hx
  have c2 : cntM (m.wire.take C) 4 = m.qs.length := by unfold cntM; rw [n2]; exact Int.toNat_natCast _
  have c3 : cntM (m.wire.take C) 6 = m.an.length := by unfold cntM; rw [n3]; exact Int.toNat_natCast _
  have c4 : cntM (m.wire.take C) 8 = m.au.length := by unfold cntM; rw [n4]; exact Int.toNat_natCast _
  have c5 : cntM (m.wire.take C) 10 = m.ex.length := by unfold cntM; rw [n5]; exact Int.toNat_natCast _
  have hne : (bodyR (m.wire.take C) m.qs.length m.an.length m.au.length m.ex.length).2.2 ≠ .none := by
    have hd12 : (m.wire.take C).drop 12 = ((m.qs.map Qu.wire).flatten ++ (m.all.map Rec.wire).flatten).take (C - 12) := hd
    by_cases q1 : C - 12 < (m.qs.map Qu.wire).flatten.length
    · exact bodyR_q (qsR_cut m.qs hq [] (a := 12) q1 hd12 (by rw [hl]; omega))
    have hdq : (m.wire.take C).drop (12 : Int).toNat = (m.qs.map Qu.wire).flatten ++ ((m.all.map Rec.wire).flatten.take (C - 12 - (m.qs.map Qu.wire).flatten.length)) := by
      rw [show (12 : Int).toNat = 12 from rfl, hd12, take_app_ge _ _ _ (by omega)]
    have h1 := qsR_wire m.qs hq [] (by decide) hdq
    have hd1 := drop_more (by decide) hdq
    have hs : (m.all.map Rec.wire).flatten = (m.an.map Rec.wire).flatten ++ ((m.au.map Rec.wire).flatten ++ (m.ex.map Rec.wire).flatten) := by simp [Msg.all]
    obtain ⟨ql, hql⟩ : ∃ ql, (m.qs.map Qu.wire).flatten.length = ql := ⟨_, rfl⟩
    rw [hql] at h1 hd1 q1 hwl
    have e1 : (12 : Int) + (ql : Int) = ((12 + ql : Nat) : Int) := by omega
    rw [e1] at h1 hd1
    rw [Int.toNat_natCast, hs] at hd1
    rw [hs, List.length_append, List.length_append] at hwl
    unfold bodyR
    rw [h1]
    dsimp only
    rw [if_neg (by simp)]
    unfold bodyR1
    by_cases q2 : C - 12 - ql < (m.an.map Rec.wire).flatten.length
    · have h2 := rsR_cut m.an (fun r h => hr r (by simp [Msg.all, h])) [] (a := 12 + ql) q2 hd1 (by rw [hl]; omega)
      rw [if_pos h2]
      exact h2
    have hda : (m.wire.take C).drop ((12 + ql : Nat) : Int).toNat = (m.an.map Rec.wire).flatten ++ (((m.au.map Rec.wire).flatten ++ (m.ex.map Rec.wire).flatten).take (C - 12 - ql - (m.an.map Rec.wire).flatten.length)) := by
      rw [Int.toNat_natCast, hd1, take_app_ge _ _ _ (by omega)]
    have h2 := rsR_wire m.an (fun r h => hr r (by simp [Msg.all, h])) [] (by omega) hda
    have hd2 := drop_more (by omega) hda
    obtain ⟨al, hall⟩ : ∃ al, (m.an.map Rec.wire).flatten.length = al := ⟨_, rfl⟩
    rw [hall] at h2 hd2 q2 hwl
    have e2 : ((12 + ql : Nat) : Int) + (al : Int) = ((12 + ql + al : Nat) : Int) := by omega
    rw [e2] at h2 hd2
    rw [Int.toNat_natCast] at hd2
    rw [h2]
    dsimp only
    rw [if_neg (by simp)]
    unfold bodyR2
    by_cases q3 : C - 12 - ql - al < (m.au.map Rec.wire).flatten.length
    · have h3 := rsR_cut m.au (fun r h => hr r (by simp [Msg.all, h])) [] (a := 12 + ql + al) q3 hd2 (by rw [hl]; omega)
      rw [if_pos h3]
      exact h3
    have hdu : (m.wire.take C).drop ((12 + ql + al : Nat) : Int).toNat = (m.au.map Rec.wire).flatten ++ ((m.ex.map Rec.wire).flatten.take (C - 12 - ql - al - (m.au.map Rec.wire).flatten.length)) := by
      rw [Int.toNat_natCast, hd2, take_app_ge _ _ _ (by omega)]
    have h3 := rsR_wire m.au (fun r h => hr r (by simp [Msg.all, h])) [] (by omega) hdu
    have hd3 := drop_more (by omega) hdu
    obtain ⟨ul, hul⟩ : ∃ ul, (m.au.map Rec.wire).flatten.length = ul := ⟨_, rfl⟩
    rw [hul] at h3 hd3 q3 hwl
    have e3 : ((12 + ql + al : Nat) : Int) + (ul : Int) = ((12 + ql + al + ul : Nat) : Int) := by omega
    rw [e3] at h3 hd3
    rw [Int.toNat_natCast] at hd3
    rw [h3]
    dsimp only
    rw [if_neg (by simp)]
    unfold bodyR3
    have h4 := rsR_cut m.ex (fun r h => hr r (by simp [Msg.all, h])) [] (a := 12 + ql + al + ul) (k := C - 12 - ql - al - ul) (R := []) (by omega) (by rw [List.append_nil]; exact hd3) (by rw [hl]; omega)
    rw [if_pos h4]
    exact h4
  have hb0 := bodyR_err _ _ _ _ _ hne
  obtain ⟨bd, ba, be, hb⟩ : ∃ bd ba be, bodyR (m.wire.take C) m.qs.length m.an.length m.au.length m.ex.length = (bd, ba, be) := ⟨_, _, _, rfl⟩
  rw [hb] at hne hb0
  dsimp only at hne hb0
  unfold parseM
  rw [c2, c3, c4, c5, if_neg (by rw [hl]; omega), if_neg (by rw [hl]; omega), if_neg (by omega), hb]
  dsimp only
  by_cases hp : be.placed = true
  · rw [if_pos hp]
    exact ⟨be, rfl, hne⟩
  · rw [if_neg hp, if_pos (by rw [hb0, hl]; omega)]
    exact ⟨_, rfl, by simp⟩
/-- Counts that are too great are told. -/
theorem parse_many (m : Msg) (hlen : m.wire.length ≤ 4000) (n : Nat) (hn : 65 ≤ n) (hn2 : n ≤ 65535) : parseM ((m.wire.set 8 ((n : Int) / 256)).set 9 ((n : Int) % 256)) = (Msg.zero, .fault 4 4) := by
  have hx : (m.wire.set 8 ((n : Int) / 256)).set 9 ((n : Int) % 256) = be16 m.id ++ be16 m.bits ++ be16 m.qs.length ++ be16 m.an.length ++ be16 n ++ be16 m.ex.length ++ ((m.qs.map Qu.wire).flatten ++ (m.all.map Rec.wire).flatten) := by
    unfold Msg.wire Msg.head
    rw [List.append_assoc]
    rfl
  have hl : ((m.wire.set 8 ((n : Int) / 256)).set 9 ((n : Int) % 256)).length = m.wire.length := by rw [List.length_set, List.length_set]
  obtain ⟨n0, n1, n2, n3, n4, n5, hd, hl2⟩ := head_nums hx
  have c4 : cntM ((m.wire.set 8 ((n : Int) / 256)).set 9 ((n : Int) % 256)) 8 = n := by unfold cntM; rw [n4]; exact Int.toNat_natCast _
  unfold parseM
  rw [c4, if_neg (by rw [hl]; omega), if_neg (by rw [hl2]; omega), if_pos (by omega)]
end Go.Proofs.YtlkneoednkhleaaGreatDoor
