/-
  The document's answers for records: RightRecord, by its contract.
-/
import Derived.Test.YtlkneoednkhleaaGreatDoorYGx
import Derived.Test.YtlkneoednkhleaaGreatDoorYGs
namespace Go.Proofs.YtlkneoednkhleaaGreatDoor
open Go.RowKit Go.Proofs.YtlkneoednkhleaaGreatDoorW.PrintWords Go.Proofs.YtlkneoednkhleaaGreatDoor.P
set_option linter.unusedVariables false
set_option linter.unusedSimpArgs false
set_option maxRecDepth 100000
set_option maxHeartbeats 1000000

section
variable {P : Program} {f : FuncId} {args : Array Value} {w0 W : World} {Q : Ending → World → Prop}
/-- A call that gives a value and makes memory of its own. -/
theorem t_ {v : Value} (H : Calls P f args W fun e w' => e = .returned v ∧ Below W.heap.size W w') (HB : Kp (Below w0.heap.size w0 W))
    (h : ∀ w1, Kp (Below W.heap.size W w1) → Kp (Below w0.heap.size w0 w1) → Q (.returned v) w1) : Calls P f args W Q := by
  refine H.mono ?_
  rintro e w1 ⟨rfl, hb⟩
  exact h w1 ⟨hb⟩ ⟨below_step HB.out hb⟩
end
/-- A struct out of the midst of a block, under a guard. -/
theorem ld_midG {P : Program} {ops : Array Oper} {rest : List Oper} {o : Oper} {a : Act} {Q : Exit → Act → World → Prop} {w : World} (hw : Region.wanted o (yielded ops a.tmps) = true) (ty : TypeId) (x : Operand) (ho : o.op = .load ty x) (g off : Nat) (hx : a.eval x = .pointer (some ⟨g, off, none⟩)) {t : TypeId} {cs : Array Value} (hg : Kp (w.heap[g]? = some (.cells cs t (0, 0))))
    {d : TypeDesc} (hu : P.underlying ty = some d) (hd : d.isRow = true) (seg : List Value) (hi : (P.info? ty).map (·.size) = some seg.length) (hs : ((cs.toList.drop off).take seg.length) = seg)
    (h : wpList P ops Q rest (a.put o.dst (.agg seg.toArray)) w) : wpList P ops Q (o :: rest) a w :=
  wpList_step fun K hK => by
    rw [if_pos hw]
    refine wp_load_mid ty x ho g off hx seg d (fun j v hj => ?_) hu hd hi (hK _ _ h)
    rw [blk_cell hg.out]
    have h1 : ((cs.toList.drop off).take seg.length)[j]? = some v := by rw [hs]; exact hj
    have hjl : j < seg.length := (List.getElem?_eq_some_iff.1 hj).1
    rw [List.getElem?_take, if_pos hjl, List.getElem?_drop, Array.getElem?_toList] at h1
    exact h1
theorem rtwo_calls (v : Int) (w : World) : Calls Tryz.prog 57 #[.int .i64 v] w fun e w' => e = .returned (.bool (within v)) ∧ Below w.heap.size w w' := by
  have h : stockaderef12_two.f v = some (within v) := by
    unfold stockaderef12_two.f within
    by_cases h : v ≥ 0
    · rw [if_pos h]; simp [h]
    · rw [if_neg h]; simp; omega
  refine (stockaderef12_two.calls v _ w h).mono ?_
  rintro e w1 ⟨rfl, hb⟩
  exact ⟨rfl, hb.below⟩
theorem rright_calls (l : L) (w : World) (hl : l.length ≤ 8100) : Calls Tryz.prog 62 #[.string (mkB l)] w fun e w' => e = .returned (.bool (rightL l)) ∧ Below w.heap.size w w' := by
  have h := ref_right 20000 (mkB l) (by rw [mkB_size]; omega) (by rw [mkB_size]; omega)
  exact stockaderef12_Right.calls 20000 (mkB l) _ w h
/-- .. as the document has it. -/
def Rec.tailT (r : Rec) : Bool :=
  if r.typ = 1 ∨ r.typ = 28 then r.ad.right && ((r.ad.v6 == decide (r.typ = 28)) && (r.tgt.isEmpty && decide (r.data.length = 0)))
  else if r.typ = 5 then rightL r.tgt && (r.ad.plain && decide (r.data.length = 0))
  else r.ad.plain && (r.tgt.isEmpty && decide (r.data.length ≤ 1000))
theorem right_nil : rightL [] = true := by decide
theorem right_T (r : Rec) : r.right = (rightL r.name && (within r.typ && (within r.cls && r.tailT))) := by
  unfold Rec.right Qu.right Rec.tail Rec.tailT
  dsimp only
  rw [Bool.and_assoc, Bool.and_assoc]
  congr 3
  by_cases h1 : r.typ = 1 ∨ r.typ = 28
  · rw [if_pos h1, if_pos h1]
    cases ht : r.tgt with
    | nil =>
      rw [right_nil]
      by_cases h0 : r.data.length = 0
      · simp [h0, Bool.and_comm]
      · simp [h0]
    | cons x l => simp
  · rw [if_neg h1, if_neg h1]
    by_cases h5 : r.typ = 5
    · rw [if_pos h5, if_pos h5]
      by_cases h0 : r.data.length = 0
      · simp [h0]
      · simp [h0]
    · rw [if_neg h5, if_neg h5]
      cases ht : r.tgt with
      | nil => rw [right_nil]; simp [Bool.and_comm]
      | cons x l => simp
theorem rrr_bad (rn rtg : L) (rt rc rl : Int) (v6 : Bool) (b : Nat → Int) (rd : List Int) (A : Option Addr) (c : Nat) (w : World) (hs : rn.length ≤ 8100) (ht : rtg.length ≤ 8100) (hd : rd.length ≤ 9223372036854775807) (hf : (rightL rn && (within rt && within rc)) = false) :
    Calls Tryz.prog 23 #[.agg #[.string (mkB rn), .int .i64 rt, .int .i64 rc, .int .u32 rl, .bool v6, .int .u8 (b 0), .int .u8 (b 1), .int .u8 (b 2), .int .u8 (b 3), .int .u8 (b 4), .int .u8 (b 5), .int .u8 (b 6), .int .u8 (b 7), .int .u8 (b 8), .int .u8 (b 9), .int .u8 (b 10), .int .u8 (b 11), .int .u8 (b 12), .int .u8 (b 13), .int .u8 (b 14), .int .u8 (b 15), .string (mkB rtg), .slice A rd.length c]] w fun e w' => e = .returned (.bool (false)) ∧ Below w.heap.size w w' := by
  have HB := Kp.mk ((Below.refl w.heap.size w).alloc (Nat.le_refl _) (.cells #[.string (mkB rn), .int .i64 rt, .int .i64 rc, .int .u32 rl, .bool v6, .int .u8 (b 0), .int .u8 (b 1), .int .u8 (b 2), .int .u8 (b 3), .int .u8 (b 4), .int .u8 (b 5), .int .u8 (b 6), .int .u8 (b 7), .int .u8 (b 8), .int .u8 (b 9), .int .u8 (b 10), .int .u8 (b 11), .int .u8 (b 12), .int .u8 (b 13), .int .u8 (b 14), .int .u8 (b 15), .string (mkB rtg), .slice A rd.length c] 28))
  have Hg := Kp.mk (heap_new w (.cells #[.string (mkB rn), .int .i64 rt, .int .i64 rc, .int .u32 rl, .bool v6, .int .u8 (b 0), .int .u8 (b 1), .int .u8 (b 2), .int .u8 (b 3), .int .u8 (b 4), .int .u8 (b 5), .int .u8 (b 6), .int .u8 (b 7), .int .u8 (b 8), .int .u8 (b 9), .int .u8 (b 10), .int .u8 (b 11), .int .u8 (b 12), .int .u8 (b 13), .int .u8 (b 14), .int .u8 (b 15), .string (mkB rtg), .slice A rd.length c] 28))
  obtain ⟨bn, hbn⟩ : ∃ bn, rightL rn = bn := ⟨_, rfl⟩
  obtain ⟨bt, hbt⟩ : ∃ bt, within rt = bt := ⟨_, rfl⟩
  obtain ⟨bc, hbc⟩ : ∃ bc, within rc = bc := ⟨_, rfl⟩
  rw [hbn, hbt, hbc] at hf
  have HBN := Kp.mk hbn
  have HBT := Kp.mk hbt
  have HBC := Kp.mk hbc
  have HF := Kp.mk hf
  clear hbn hbt hbc hf
  go_enter Tryz.func23, Tryz.ntmps23
  go_wp2_with (fail)
  have c0 := blk_cell Hg.out 0
  go_wp2_with (fail)
  refine t_ (rright_calls rn _ hs) HB ?_
  intro w1 HB1 HS1
  have Hg1 := Kp.mk ((HB1.out.block _ (heap_lt Hg.out)).trans Hg.out)
  clear c0
  rw [HBN.out]
  cases bn
  · go_wp2
    go_ret
    exact ⟨rfl, HS1.out⟩
  have c1 := blk_cell Hg1.out 1
  go_wp2_with (fail)
  refine t_ (rtwo_calls rt _) HS1 ?_
  intro w2 HB2 HS2
  have Hg2 := Kp.mk ((HB2.out.block _ (heap_lt Hg1.out)).trans Hg1.out)
  clear c1
  rw [HBT.out]
  cases bt
  · go_wp2
    go_ret
    exact ⟨rfl, HS2.out⟩
  have c2 := blk_cell Hg2.out 2
  go_wp2_with (fail)
  refine t_ (rtwo_calls rc _) HS2 ?_
  intro w3 HB3 HS3
  have Hg3 := Kp.mk ((HB3.out.block _ (heap_lt Hg2.out)).trans Hg2.out)
  clear c2
  rw [HBC.out]
  cases bc
  · go_wp2
    go_ret
    exact ⟨rfl, HS3.out⟩
  · exact absurd HF.out (by decide)
theorem rrr_1 (rn rtg : L) (rc rl : Int) (v6 : Bool) (b : Nat → Int) (rd : List Int) (A : Option Addr) (c : Nat) (w : World) (hs : rn.length ≤ 8100) (ht : rtg.length ≤ 8100) (hd : rd.length ≤ 9223372036854775807) (hbn : rightL rn = true) (hbt : within 1 = true) (hbc : within rc = true) :
    Calls Tryz.prog 23 #[.agg #[.string (mkB rn), .int .i64 1, .int .i64 rc, .int .u32 rl, .bool v6, .int .u8 (b 0), .int .u8 (b 1), .int .u8 (b 2), .int .u8 (b 3), .int .u8 (b 4), .int .u8 (b 5), .int .u8 (b 6), .int .u8 (b 7), .int .u8 (b 8), .int .u8 (b 9), .int .u8 (b 10), .int .u8 (b 11), .int .u8 (b 12), .int .u8 (b 13), .int .u8 (b 14), .int .u8 (b 15), .string (mkB rtg), .slice A rd.length c]] w fun e w' => e = .returned (.bool (Rec.tailT ⟨rn, 1, rc, rl, ⟨v6, b⟩, rtg, rd⟩)) ∧ Below w.heap.size w w' := by
  have HB := Kp.mk ((Below.refl w.heap.size w).alloc (Nat.le_refl _) (.cells #[.string (mkB rn), .int .i64 1, .int .i64 rc, .int .u32 rl, .bool v6, .int .u8 (b 0), .int .u8 (b 1), .int .u8 (b 2), .int .u8 (b 3), .int .u8 (b 4), .int .u8 (b 5), .int .u8 (b 6), .int .u8 (b 7), .int .u8 (b 8), .int .u8 (b 9), .int .u8 (b 10), .int .u8 (b 11), .int .u8 (b 12), .int .u8 (b 13), .int .u8 (b 14), .int .u8 (b 15), .string (mkB rtg), .slice A rd.length c] 28))
  have Hg := Kp.mk (heap_new w (.cells #[.string (mkB rn), .int .i64 1, .int .i64 rc, .int .u32 rl, .bool v6, .int .u8 (b 0), .int .u8 (b 1), .int .u8 (b 2), .int .u8 (b 3), .int .u8 (b 4), .int .u8 (b 5), .int .u8 (b 6), .int .u8 (b 7), .int .u8 (b 8), .int .u8 (b 9), .int .u8 (b 10), .int .u8 (b 11), .int .u8 (b 12), .int .u8 (b 13), .int .u8 (b 14), .int .u8 (b 15), .string (mkB rtg), .slice A rd.length c] 28))
  have HBN := Kp.mk hbn
  have HBT := Kp.mk hbt
  have HBC := Kp.mk hbc
  clear hbn hbt hbc
  have hbe : (mkB rtg).toList.isEmpty = rtg.isEmpty := by rw [ByteArray.toList_eq]; rfl
  obtain ⟨be, hbe2⟩ : ∃ be, rtg.isEmpty = be := ⟨_, rfl⟩
  rw [hbe2] at hbe
  obtain ⟨ba, hba⟩ : ∃ ba, Ad.right ⟨v6, b⟩ = ba := ⟨_, rfl⟩
  have hT : Rec.tailT ⟨rn, 1, rc, rl, ⟨v6, b⟩, rtg, rd⟩ = (ba && ((v6 == false) && (be && decide (rd.length = 0)))) := by
    unfold Rec.tailT
    dsimp only
    rw [if_pos (by decide), hba, hbe2]
    rfl
  rw [hT]
  have HBA := Kp.mk hba
  clear hba hbe2 hT
  go_enter Tryz.func23, Tryz.ntmps23
  go_wp2_with (fail)
  have c0 := blk_cell Hg.out 0
  go_wp2_with (fail)
  refine t_ (rright_calls rn _ hs) HB ?_
  intro w1 HB1 HS1
  have Hg1 := Kp.mk ((HB1.out.block _ (heap_lt Hg.out)).trans Hg.out)
  clear c0
  rw [HBN.out]
  have c1 := blk_cell Hg1.out 1
  go_wp2_with (fail)
  refine t_ (rtwo_calls 1 _) HS1 ?_
  intro w2 HB2 HS2
  have Hg2 := Kp.mk ((HB2.out.block _ (heap_lt Hg1.out)).trans Hg1.out)
  clear c1
  rw [HBT.out]
  have c2 := blk_cell Hg2.out 2
  go_wp2_with (fail)
  refine t_ (rtwo_calls rc _) HS2 ?_
  intro w3 HB3 HS3
  have Hg3 := Kp.mk ((HB3.out.block _ (heap_lt Hg2.out)).trans Hg2.out)
  clear c2
  rw [HBC.out]
  have c1 := blk_cell Hg3.out 1
  go_wp2_with (with_reducible refine ld_mid rfl 26 (.tmp 24) rfl w.heap.size 4 rfl Hg3 Tryz.underlying26 rfl [.bool v6, .int .u8 (b 0), .int .u8 (b 1), .int .u8 (b 2), .int .u8 (b 3), .int .u8 (b 4), .int .u8 (b 5), .int .u8 (b 6), .int .u8 (b 7), .int .u8 (b 8), .int .u8 (b 9), .int .u8 (b 10), .int .u8 (b 11), .int .u8 (b 12), .int .u8 (b 13), .int .u8 (b 14), .int .u8 (b 15)] (by kernel_rfl) rfl ?_)
  refine t_ (rad_right ⟨v6, b⟩ _) HS3 ?_
  intro w4 HB4 HS4
  have Hg4 := Kp.mk ((HB4.out.block _ (heap_lt Hg3.out)).trans Hg3.out)
  clear c1
  rw [HBA.out]
  have d4 := blk_cell Hg4.out 4
  have d1 := blk_cell Hg4.out 1
  have d21 := blk_cell Hg4.out 21
  have d22 := blk_cell Hg4.out 22
  cases ba
  · go_wp2
    go_ret
    exact ⟨by rfl, HS4.out⟩
  cases v6
  · skip
    cases be
    · go_wp2
      go_ret
      exact ⟨by rfl, HS4.out⟩
    by_cases h0 : rd.length = 0
    · have hd0 : decide (rd.length = 0) = true := by simpa using h0
      have HD0 := Kp.mk hd0
      rw [h0] at d22
      clear h0 hd0
      go_wp2
      go_ret
      exact ⟨by rw [HD0.out]; rfl, HS4.out⟩
    · have b0 : ((rd.length : Int) == 0) = false := by simpa using h0
      have hd0 : decide (rd.length = 0) = false := by simpa using h0
      have HD0 := Kp.mk hd0
      clear h0 hd0
      go_wp2
      go_ret
      exact ⟨by rw [HD0.out]; rfl, HS4.out⟩
  · go_wp2
    go_ret
    exact ⟨by rfl, HS4.out⟩
theorem rrr_28 (rn rtg : L) (rc rl : Int) (v6 : Bool) (b : Nat → Int) (rd : List Int) (A : Option Addr) (c : Nat) (w : World) (hs : rn.length ≤ 8100) (ht : rtg.length ≤ 8100) (hd : rd.length ≤ 9223372036854775807) (hbn : rightL rn = true) (hbt : within 28 = true) (hbc : within rc = true) :
    Calls Tryz.prog 23 #[.agg #[.string (mkB rn), .int .i64 28, .int .i64 rc, .int .u32 rl, .bool v6, .int .u8 (b 0), .int .u8 (b 1), .int .u8 (b 2), .int .u8 (b 3), .int .u8 (b 4), .int .u8 (b 5), .int .u8 (b 6), .int .u8 (b 7), .int .u8 (b 8), .int .u8 (b 9), .int .u8 (b 10), .int .u8 (b 11), .int .u8 (b 12), .int .u8 (b 13), .int .u8 (b 14), .int .u8 (b 15), .string (mkB rtg), .slice A rd.length c]] w fun e w' => e = .returned (.bool (Rec.tailT ⟨rn, 28, rc, rl, ⟨v6, b⟩, rtg, rd⟩)) ∧ Below w.heap.size w w' := by
  have HB := Kp.mk ((Below.refl w.heap.size w).alloc (Nat.le_refl _) (.cells #[.string (mkB rn), .int .i64 28, .int .i64 rc, .int .u32 rl, .bool v6, .int .u8 (b 0), .int .u8 (b 1), .int .u8 (b 2), .int .u8 (b 3), .int .u8 (b 4), .int .u8 (b 5), .int .u8 (b 6), .int .u8 (b 7), .int .u8 (b 8), .int .u8 (b 9), .int .u8 (b 10), .int .u8 (b 11), .int .u8 (b 12), .int .u8 (b 13), .int .u8 (b 14), .int .u8 (b 15), .string (mkB rtg), .slice A rd.length c] 28))
  have Hg := Kp.mk (heap_new w (.cells #[.string (mkB rn), .int .i64 28, .int .i64 rc, .int .u32 rl, .bool v6, .int .u8 (b 0), .int .u8 (b 1), .int .u8 (b 2), .int .u8 (b 3), .int .u8 (b 4), .int .u8 (b 5), .int .u8 (b 6), .int .u8 (b 7), .int .u8 (b 8), .int .u8 (b 9), .int .u8 (b 10), .int .u8 (b 11), .int .u8 (b 12), .int .u8 (b 13), .int .u8 (b 14), .int .u8 (b 15), .string (mkB rtg), .slice A rd.length c] 28))
  have HBN := Kp.mk hbn
  have HBT := Kp.mk hbt
  have HBC := Kp.mk hbc
  clear hbn hbt hbc
  have hbe : (mkB rtg).toList.isEmpty = rtg.isEmpty := by rw [ByteArray.toList_eq]; rfl
  obtain ⟨be, hbe2⟩ : ∃ be, rtg.isEmpty = be := ⟨_, rfl⟩
  rw [hbe2] at hbe
  obtain ⟨ba, hba⟩ : ∃ ba, Ad.right ⟨v6, b⟩ = ba := ⟨_, rfl⟩
  have hT : Rec.tailT ⟨rn, 28, rc, rl, ⟨v6, b⟩, rtg, rd⟩ = (ba && ((v6 == true) && (be && decide (rd.length = 0)))) := by
    unfold Rec.tailT
    dsimp only
    rw [if_pos (by decide), hba, hbe2]
    rfl
  rw [hT]
  have HBA := Kp.mk hba
  clear hba hbe2 hT
  go_enter Tryz.func23, Tryz.ntmps23
  go_wp2_with (fail)
  have c0 := blk_cell Hg.out 0
  go_wp2_with (fail)
  refine t_ (rright_calls rn _ hs) HB ?_
  intro w1 HB1 HS1
  have Hg1 := Kp.mk ((HB1.out.block _ (heap_lt Hg.out)).trans Hg.out)
  clear c0
  rw [HBN.out]
  have c1 := blk_cell Hg1.out 1
  go_wp2_with (fail)
  refine t_ (rtwo_calls 28 _) HS1 ?_
  intro w2 HB2 HS2
  have Hg2 := Kp.mk ((HB2.out.block _ (heap_lt Hg1.out)).trans Hg1.out)
  clear c1
  rw [HBT.out]
  have c2 := blk_cell Hg2.out 2
  go_wp2_with (fail)
  refine t_ (rtwo_calls rc _) HS2 ?_
  intro w3 HB3 HS3
  have Hg3 := Kp.mk ((HB3.out.block _ (heap_lt Hg2.out)).trans Hg2.out)
  clear c2
  rw [HBC.out]
  have c1 := blk_cell Hg3.out 1
  go_wp2_with (with_reducible refine ld_mid rfl 26 (.tmp 24) rfl w.heap.size 4 rfl Hg3 Tryz.underlying26 rfl [.bool v6, .int .u8 (b 0), .int .u8 (b 1), .int .u8 (b 2), .int .u8 (b 3), .int .u8 (b 4), .int .u8 (b 5), .int .u8 (b 6), .int .u8 (b 7), .int .u8 (b 8), .int .u8 (b 9), .int .u8 (b 10), .int .u8 (b 11), .int .u8 (b 12), .int .u8 (b 13), .int .u8 (b 14), .int .u8 (b 15)] (by kernel_rfl) rfl ?_)
  refine t_ (rad_right ⟨v6, b⟩ _) HS3 ?_
  intro w4 HB4 HS4
  have Hg4 := Kp.mk ((HB4.out.block _ (heap_lt Hg3.out)).trans Hg3.out)
  clear c1
  rw [HBA.out]
  have d4 := blk_cell Hg4.out 4
  have d1 := blk_cell Hg4.out 1
  have d21 := blk_cell Hg4.out 21
  have d22 := blk_cell Hg4.out 22
  cases ba
  · go_wp2
    go_ret
    exact ⟨by rfl, HS4.out⟩
  cases v6
  · go_wp2
    go_ret
    exact ⟨by rfl, HS4.out⟩
  · skip
    cases be
    · go_wp2
      go_ret
      exact ⟨by rfl, HS4.out⟩
    by_cases h0 : rd.length = 0
    · have hd0 : decide (rd.length = 0) = true := by simpa using h0
      have HD0 := Kp.mk hd0
      rw [h0] at d22
      clear h0 hd0
      go_wp2
      go_ret
      exact ⟨by rw [HD0.out]; rfl, HS4.out⟩
    · have b0 : ((rd.length : Int) == 0) = false := by simpa using h0
      have hd0 : decide (rd.length = 0) = false := by simpa using h0
      have HD0 := Kp.mk hd0
      clear h0 hd0
      go_wp2
      go_ret
      exact ⟨by rw [HD0.out]; rfl, HS4.out⟩
theorem rrr_5 (rn rtg : L) (rc rl : Int) (v6 : Bool) (b : Nat → Int) (rd : List Int) (A : Option Addr) (c : Nat) (w : World) (hs : rn.length ≤ 8100) (ht : rtg.length ≤ 8100) (hd : rd.length ≤ 9223372036854775807) (hbn : rightL rn = true) (hbt : within 5 = true) (hbc : within rc = true) :
    Calls Tryz.prog 23 #[.agg #[.string (mkB rn), .int .i64 5, .int .i64 rc, .int .u32 rl, .bool v6, .int .u8 (b 0), .int .u8 (b 1), .int .u8 (b 2), .int .u8 (b 3), .int .u8 (b 4), .int .u8 (b 5), .int .u8 (b 6), .int .u8 (b 7), .int .u8 (b 8), .int .u8 (b 9), .int .u8 (b 10), .int .u8 (b 11), .int .u8 (b 12), .int .u8 (b 13), .int .u8 (b 14), .int .u8 (b 15), .string (mkB rtg), .slice A rd.length c]] w fun e w' => e = .returned (.bool (Rec.tailT ⟨rn, 5, rc, rl, ⟨v6, b⟩, rtg, rd⟩)) ∧ Below w.heap.size w w' := by
  have HB := Kp.mk ((Below.refl w.heap.size w).alloc (Nat.le_refl _) (.cells #[.string (mkB rn), .int .i64 5, .int .i64 rc, .int .u32 rl, .bool v6, .int .u8 (b 0), .int .u8 (b 1), .int .u8 (b 2), .int .u8 (b 3), .int .u8 (b 4), .int .u8 (b 5), .int .u8 (b 6), .int .u8 (b 7), .int .u8 (b 8), .int .u8 (b 9), .int .u8 (b 10), .int .u8 (b 11), .int .u8 (b 12), .int .u8 (b 13), .int .u8 (b 14), .int .u8 (b 15), .string (mkB rtg), .slice A rd.length c] 28))
  have Hg := Kp.mk (heap_new w (.cells #[.string (mkB rn), .int .i64 5, .int .i64 rc, .int .u32 rl, .bool v6, .int .u8 (b 0), .int .u8 (b 1), .int .u8 (b 2), .int .u8 (b 3), .int .u8 (b 4), .int .u8 (b 5), .int .u8 (b 6), .int .u8 (b 7), .int .u8 (b 8), .int .u8 (b 9), .int .u8 (b 10), .int .u8 (b 11), .int .u8 (b 12), .int .u8 (b 13), .int .u8 (b 14), .int .u8 (b 15), .string (mkB rtg), .slice A rd.length c] 28))
  have HBN := Kp.mk hbn
  have HBT := Kp.mk hbt
  have HBC := Kp.mk hbc
  clear hbn hbt hbc
  obtain ⟨bz, hbz⟩ : ∃ bz, Ad.plain ⟨v6, b⟩ = bz := ⟨_, rfl⟩
  have heq := fun (w : World) => run_eq_ad v6 false (b 0) (b 1) (b 2) (b 3) (b 4) (b 5) (b 6) (b 7) (b 8) (b 9) (b 10) (b 11) (b 12) (b 13) (b 14) (b 15) 0 0 0 0 0 0 0 0 0 0 0 0 0 0 0 0 w
  have hbz2 : (v6 == false && eq16 [b 0, b 1, b 2, b 3, b 4, b 5, b 6, b 7, b 8, b 9, b 10, b 11, b 12, b 13, b 14, b 15] [0, 0, 0, 0, 0, 0, 0, 0, 0, 0, 0, 0, 0, 0, 0, 0]) = bz := hbz
  rw [hbz2] at heq
  obtain ⟨ba, hba⟩ : ∃ ba, rightL rtg = ba := ⟨_, rfl⟩
  have hT : Rec.tailT ⟨rn, 5, rc, rl, ⟨v6, b⟩, rtg, rd⟩ = (ba && (bz && decide (rd.length = 0))) := by
    unfold Rec.tailT
    dsimp only
    rw [if_neg (by decide), if_pos rfl, hba, hbz]
  rw [hT]
  have HBA := Kp.mk hba
  clear hba hT hbz hbz2
  go_enter Tryz.func23, Tryz.ntmps23
  go_wp2_with (fail)
  have c0 := blk_cell Hg.out 0
  go_wp2_with (fail)
  refine t_ (rright_calls rn _ hs) HB ?_
  intro w1 HB1 HS1
  have Hg1 := Kp.mk ((HB1.out.block _ (heap_lt Hg.out)).trans Hg.out)
  clear c0
  rw [HBN.out]
  have c1 := blk_cell Hg1.out 1
  go_wp2_with (fail)
  refine t_ (rtwo_calls 5 _) HS1 ?_
  intro w2 HB2 HS2
  have Hg2 := Kp.mk ((HB2.out.block _ (heap_lt Hg1.out)).trans Hg1.out)
  clear c1
  rw [HBT.out]
  have c2 := blk_cell Hg2.out 2
  go_wp2_with (fail)
  refine t_ (rtwo_calls rc _) HS2 ?_
  intro w3 HB3 HS3
  have Hg3 := Kp.mk ((HB3.out.block _ (heap_lt Hg2.out)).trans Hg2.out)
  clear c2
  rw [HBC.out]
  have c1 := blk_cell Hg3.out 1
  have c21 := blk_cell Hg3.out 21
  go_wp2_with (fail)
  refine t_ (rright_calls rtg _ ht) HS3 ?_
  intro w4 HB4 HS4
  have Hg4 := Kp.mk ((HB4.out.block _ (heap_lt Hg3.out)).trans Hg3.out)
  clear c1 c21
  rw [HBA.out]
  have d22 := blk_cell Hg4.out 22
  cases ba
  · go_wp2
    go_ret
    exact ⟨by rfl, HS4.out⟩
  cases bz
  · go_wp2_with (with_reducible refine ld_midG (by kernel_rfl) 26 (.tmp 53) rfl w.heap.size 4 rfl Hg4 Tryz.underlying26 rfl [.bool v6, .int .u8 (b 0), .int .u8 (b 1), .int .u8 (b 2), .int .u8 (b 3), .int .u8 (b 4), .int .u8 (b 5), .int .u8 (b 6), .int .u8 (b 7), .int .u8 (b 8), .int .u8 (b 9), .int .u8 (b 10), .int .u8 (b 11), .int .u8 (b 12), .int .u8 (b 13), .int .u8 (b 14), .int .u8 (b 15)] (by kernel_rfl) rfl ?_)
    go_ret
    exact ⟨by rfl, HS4.out⟩
  · by_cases h0 : rd.length = 0
    · have hd0 : decide (rd.length = 0) = true := by simpa using h0
      have HD0 := Kp.mk hd0
      rw [h0] at d22
      clear h0 hd0
      go_wp2_with (with_reducible refine ld_midG (by kernel_rfl) 26 (.tmp 53) rfl w.heap.size 4 rfl Hg4 Tryz.underlying26 rfl [.bool v6, .int .u8 (b 0), .int .u8 (b 1), .int .u8 (b 2), .int .u8 (b 3), .int .u8 (b 4), .int .u8 (b 5), .int .u8 (b 6), .int .u8 (b 7), .int .u8 (b 8), .int .u8 (b 9), .int .u8 (b 10), .int .u8 (b 11), .int .u8 (b 12), .int .u8 (b 13), .int .u8 (b 14), .int .u8 (b 15)] (by kernel_rfl) rfl ?_)
      go_ret
      exact ⟨by rw [HD0.out]; rfl, HS4.out⟩
    · have b0 : ((rd.length : Int) == 0) = false := by simpa using h0
      have hd0 : decide (rd.length = 0) = false := by simpa using h0
      have HD0 := Kp.mk hd0
      clear h0 hd0
      go_wp2_with (with_reducible refine ld_midG (by kernel_rfl) 26 (.tmp 53) rfl w.heap.size 4 rfl Hg4 Tryz.underlying26 rfl [.bool v6, .int .u8 (b 0), .int .u8 (b 1), .int .u8 (b 2), .int .u8 (b 3), .int .u8 (b 4), .int .u8 (b 5), .int .u8 (b 6), .int .u8 (b 7), .int .u8 (b 8), .int .u8 (b 9), .int .u8 (b 10), .int .u8 (b 11), .int .u8 (b 12), .int .u8 (b 13), .int .u8 (b 14), .int .u8 (b 15)] (by kernel_rfl) rfl ?_)
      go_ret
      exact ⟨by rw [HD0.out]; rfl, HS4.out⟩
theorem rrr_o (rn rtg : L) (rt rc rl : Int) (v6 : Bool) (b : Nat → Int) (rd : List Int) (A : Option Addr) (c : Nat) (w : World) (hs : rn.length ≤ 8100) (ht : rtg.length ≤ 8100) (hd : rd.length ≤ 9223372036854775807) (hbn : rightL rn = true) (hbt : within rt = true) (hbc : within rc = true) (h1 : rt ≠ 1) (h28 : rt ≠ 28) (h5 : rt ≠ 5) :
    Calls Tryz.prog 23 #[.agg #[.string (mkB rn), .int .i64 rt, .int .i64 rc, .int .u32 rl, .bool v6, .int .u8 (b 0), .int .u8 (b 1), .int .u8 (b 2), .int .u8 (b 3), .int .u8 (b 4), .int .u8 (b 5), .int .u8 (b 6), .int .u8 (b 7), .int .u8 (b 8), .int .u8 (b 9), .int .u8 (b 10), .int .u8 (b 11), .int .u8 (b 12), .int .u8 (b 13), .int .u8 (b 14), .int .u8 (b 15), .string (mkB rtg), .slice A rd.length c]] w fun e w' => e = .returned (.bool (Rec.tailT ⟨rn, rt, rc, rl, ⟨v6, b⟩, rtg, rd⟩)) ∧ Below w.heap.size w w' := by
  have HB := Kp.mk ((Below.refl w.heap.size w).alloc (Nat.le_refl _) (.cells #[.string (mkB rn), .int .i64 rt, .int .i64 rc, .int .u32 rl, .bool v6, .int .u8 (b 0), .int .u8 (b 1), .int .u8 (b 2), .int .u8 (b 3), .int .u8 (b 4), .int .u8 (b 5), .int .u8 (b 6), .int .u8 (b 7), .int .u8 (b 8), .int .u8 (b 9), .int .u8 (b 10), .int .u8 (b 11), .int .u8 (b 12), .int .u8 (b 13), .int .u8 (b 14), .int .u8 (b 15), .string (mkB rtg), .slice A rd.length c] 28))
  have Hg := Kp.mk (heap_new w (.cells #[.string (mkB rn), .int .i64 rt, .int .i64 rc, .int .u32 rl, .bool v6, .int .u8 (b 0), .int .u8 (b 1), .int .u8 (b 2), .int .u8 (b 3), .int .u8 (b 4), .int .u8 (b 5), .int .u8 (b 6), .int .u8 (b 7), .int .u8 (b 8), .int .u8 (b 9), .int .u8 (b 10), .int .u8 (b 11), .int .u8 (b 12), .int .u8 (b 13), .int .u8 (b 14), .int .u8 (b 15), .string (mkB rtg), .slice A rd.length c] 28))
  have HBN := Kp.mk hbn
  have HBT := Kp.mk hbt
  have HBC := Kp.mk hbc
  clear hbn hbt hbc
  have hbe : (mkB rtg).toList.isEmpty = rtg.isEmpty := by rw [ByteArray.toList_eq]; rfl
  obtain ⟨be, hbe2⟩ : ∃ be, rtg.isEmpty = be := ⟨_, rfl⟩
  rw [hbe2] at hbe
  obtain ⟨bz, hbz⟩ : ∃ bz, Ad.plain ⟨v6, b⟩ = bz := ⟨_, rfl⟩
  have heq := fun (w : World) => run_eq_ad v6 false (b 0) (b 1) (b 2) (b 3) (b 4) (b 5) (b 6) (b 7) (b 8) (b 9) (b 10) (b 11) (b 12) (b 13) (b 14) (b 15) 0 0 0 0 0 0 0 0 0 0 0 0 0 0 0 0 w
  have hbz2 : (v6 == false && eq16 [b 0, b 1, b 2, b 3, b 4, b 5, b 6, b 7, b 8, b 9, b 10, b 11, b 12, b 13, b 14, b 15] [0, 0, 0, 0, 0, 0, 0, 0, 0, 0, 0, 0, 0, 0, 0, 0]) = bz := hbz
  rw [hbz2] at heq
  have hT : Rec.tailT ⟨rn, rt, rc, rl, ⟨v6, b⟩, rtg, rd⟩ = (bz && (be && decide (rd.length ≤ 1000))) := by
    unfold Rec.tailT
    dsimp only
    rw [if_neg (by omega), if_neg h5, hbz, hbe2]
  obtain ⟨bd, hbd⟩ : ∃ bd, decide (rd.length ≤ 1000) = bd := ⟨_, rfl⟩
  rw [hbd] at hT
  rw [hT]
  have HBD := Kp.mk hbd
  have b1 : (rt == 1) = false := by simpa using h1
  have b28 : (rt == 28) = false := by simpa using h28
  have b5 : (rt == 5) = false := by simpa using h5
  clear hT hbz hbz2 hbe2 h1 h28 h5 hbd
  go_enter Tryz.func23, Tryz.ntmps23
  go_wp2_with (fail)
  have c0 := blk_cell Hg.out 0
  go_wp2_with (fail)
  refine t_ (rright_calls rn _ hs) HB ?_
  intro w1 HB1 HS1
  have Hg1 := Kp.mk ((HB1.out.block _ (heap_lt Hg.out)).trans Hg.out)
  clear c0
  rw [HBN.out]
  have c1 := blk_cell Hg1.out 1
  go_wp2_with (fail)
  refine t_ (rtwo_calls rt _) HS1 ?_
  intro w2 HB2 HS2
  have Hg2 := Kp.mk ((HB2.out.block _ (heap_lt Hg1.out)).trans Hg1.out)
  clear c1
  rw [HBT.out]
  have c2 := blk_cell Hg2.out 2
  go_wp2_with (fail)
  refine t_ (rtwo_calls rc _) HS2 ?_
  intro w3 HB3 HS3
  have Hg3 := Kp.mk ((HB3.out.block _ (heap_lt Hg2.out)).trans Hg2.out)
  clear c2
  rw [HBC.out]
  have c1 := blk_cell Hg3.out 1
  have c21 := blk_cell Hg3.out 21
  have c22 := blk_cell Hg3.out 22
  cases bz
  · go_wp2_with (with_reducible refine ld_mid rfl 26 (.tmp 64) rfl w.heap.size 4 rfl Hg3 Tryz.underlying26 rfl [.bool v6, .int .u8 (b 0), .int .u8 (b 1), .int .u8 (b 2), .int .u8 (b 3), .int .u8 (b 4), .int .u8 (b 5), .int .u8 (b 6), .int .u8 (b 7), .int .u8 (b 8), .int .u8 (b 9), .int .u8 (b 10), .int .u8 (b 11), .int .u8 (b 12), .int .u8 (b 13), .int .u8 (b 14), .int .u8 (b 15)] (by kernel_rfl) rfl ?_)
    go_ret
    exact ⟨by rfl, HS3.out⟩
  cases be
  · go_wp2_with (with_reducible refine ld_mid rfl 26 (.tmp 64) rfl w.heap.size 4 rfl Hg3 Tryz.underlying26 rfl [.bool v6, .int .u8 (b 0), .int .u8 (b 1), .int .u8 (b 2), .int .u8 (b 3), .int .u8 (b 4), .int .u8 (b 5), .int .u8 (b 6), .int .u8 (b 7), .int .u8 (b 8), .int .u8 (b 9), .int .u8 (b 10), .int .u8 (b 11), .int .u8 (b 12), .int .u8 (b 13), .int .u8 (b 14), .int .u8 (b 15)] (by kernel_rfl) rfl ?_)
    go_ret
    exact ⟨by rfl, HS3.out⟩
  have hdl : decide ((rd.length : Int) ≤ 1000) = bd := by rw [← HBD.out, decide_eq_decide]; omega
  go_wp2_with (with_reducible refine ld_mid rfl 26 (.tmp 64) rfl w.heap.size 4 rfl Hg3 Tryz.underlying26 rfl [.bool v6, .int .u8 (b 0), .int .u8 (b 1), .int .u8 (b 2), .int .u8 (b 3), .int .u8 (b 4), .int .u8 (b 5), .int .u8 (b 6), .int .u8 (b 7), .int .u8 (b 8), .int .u8 (b 9), .int .u8 (b 10), .int .u8 (b 11), .int .u8 (b 12), .int .u8 (b 13), .int .u8 (b 14), .int .u8 (b 15)] (by kernel_rfl) rfl ?_)
  go_ret
  exact ⟨by rfl, HS3.out⟩
theorem rrec_right (r : Rec) (A : Option Addr) (c : Nat) (w : World) (hs : r.name.length ≤ 8100) (ht : r.tgt.length ≤ 8100) (hd : r.data.length ≤ 9223372036854775807) : Calls Tryz.prog 23 #[.agg (recA r (.slice A r.data.length c))] w fun e w' => e = .returned (.bool r.right) ∧ Below w.heap.size w w' := by
  have hR := right_T r
  obtain ⟨rn, rt, rc, rl, ⟨v6, b⟩, rtg, rd⟩ := r
  dsimp only at hs ht hd hR
  by_cases hf : (rightL rn && (within rt && within rc)) = true
  · have hg := hf
    rw [Bool.and_eq_true, Bool.and_eq_true] at hg
    obtain ⟨g1, g2, g3⟩ := hg
    rw [g1, g2, g3, Bool.true_and, Bool.true_and, Bool.true_and] at hR
    rw [hR]
    by_cases h1 : rt = 1
    · subst h1; exact rrr_1 rn rtg rc rl v6 b rd A c w hs ht hd g1 g2 g3
    · by_cases h28 : rt = 28
      · subst h28; exact rrr_28 rn rtg rc rl v6 b rd A c w hs ht hd g1 g2 g3
      · by_cases h5 : rt = 5
        · subst h5; exact rrr_5 rn rtg rc rl v6 b rd A c w hs ht hd g1 g2 g3
        · exact rrr_o rn rtg rt rc rl v6 b rd A c w hs ht hd g1 g2 g3 h1 h28 h5
  · have hf' : (rightL rn && (within rt && within rc)) = false := by simpa using hf
    have e : Rec.right ⟨rn, rt, rc, rl, ⟨v6, b⟩, rtg, rd⟩ = false := by
      rw [hR, ← Bool.and_assoc, ← Bool.and_assoc, Bool.and_assoc (rightL rn), hf']
      rfl
    rw [e]
    exact rrr_bad rn rtg rt rc rl v6 b rd A c w hs ht hd hf'
end Go.Proofs.YtlkneoednkhleaaGreatDoor

