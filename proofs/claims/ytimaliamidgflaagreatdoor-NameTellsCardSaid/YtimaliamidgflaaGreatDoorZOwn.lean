/-
  The statements' own helpers: a copy with spare room; was it kept; two rows held against each other: at bytes and texts.
-/
import Derived.Test.YtimaliamidgflaaGreatDoorGb
import Derived.Test.YtimaliamidgflaaGreatDoorGd
namespace Go.Proofs.YtimaliamidgflaaGreatDoor
open Go.RowKit Go.Proofs.YtimaliamidgflaaGreatDoorW.PrintWords
set_option maxRecDepth 100000
set_option maxHeartbeats 1000000

theorem app_fits {ops : Array Oper} {rest : List Oper} {o : Oper} {a : Act} {Q : Exit → Act → World → Prop} {W : World} {base : Nat} {s x : Operand} (hgd : o.guard = none) (ho : o.op = .call { callee := .builtin .append, args := #[s, x], argTypes := #[22, 22] })
    (g k cap : Nat) (xs ys : List Int) (A : Option Addr) (m c : Nat) (hs : a.eval s = .slice (some ⟨g, 0, none⟩) k cap) (hx : a.eval x = .slice A m c)
    (hown : W.ownsRow base 5 1 (.slice (some ⟨g, 0, none⟩) k cap) k (nums .u8 xs)) (HR : (Kd.int .u8).C W A m ys) (b1 : k + m ≤ cap)
    (h : ∀ w', Kp (w'.ownsRow base 5 1 (.slice (some ⟨g, 0, none⟩) (k + m) cap) (k + m) (nums .u8 (xs ++ ys))) → Kp (W.grownBy w' (some g)) → wpList Tryz.prog ops Q rest (a.put o.dst (.slice (some ⟨g, 0, none⟩) (k + m) cap)) w') :
    wpList Tryz.prog ops Q (o :: rest) a W := by
  obtain ⟨i0, hi, hzz⟩ := Option.map_eq_some_iff.1 (show (Tryz.prog.info? 5).map (fun i => (i.zero, i.size, i.bytes)) = some (some (.int .u8 0), 1, 1) by kernel_rfl)
  simp only [Prod.mk.injEq] at hzz
  obtain ⟨hz0, hz1, hz2⟩ := hzz
  have hyl := (C_len HR).1
  cases A with
  | none =>
    obtain ⟨rfl, rfl⟩ := C_nil0 HR
    refine wpList_plain hgd fun K hK => ?_
    have hrun : (Builtin.append_ #[22, 22] o.type #[.slice (some ⟨g, 0, none⟩) k cap, .slice none 0 c]).run Tryz.prog W = .ok (.slice (some ⟨g, 0, none⟩) k cap) W := by
      simp [Builtin.append_, run_underlying Tryz.underlying22, sizeOf, typeInfo, hi, Builtin.lenOf, Builtin.firstCells, show k ≤ cap by omega, storeCells]
    unfold Oper.wp execOp
    simp only [ho, resolve, invoke, builtin, Sem.run_bind, Sem.run_pure, Result.andThen_ok, List.map_toArray, List.map_cons, List.map_nil, hs, hx, hrun]
    exact hK _ _ (h W ⟨by rw [List.append_nil]; exact hown⟩ ⟨World.grownBy.refl W _⟩)
  | some ad =>
    have hcell : ∀ j u, (nums .u8 ys)[j]? = some u → W.cell? (ad.add j) = some u := by
      intro j u hu
      have hj : j < ys.length := by
        have := (List.getElem?_eq_some_iff.1 hu).1
        simpa [nums] using this
      obtain ⟨ad', he, hc⟩ := at_nat HR j (by omega)
      injection he with he
      subst he
      rw [hc]
      simp [nums, List.getElem?_eq_getElem hj] at hu
      rw [← hu, List.getD_eq_getElem?_getD, List.getElem?_eq_getElem hj]
      rfl
    refine wpList_append_fits W hgd s x 22 ho base 5 i0 1 Tryz.underlying22 hi hz1 g k cap (nums .u8 xs) hs hown ad m c (nums .u8 ys) hx (by simp [nums, hyl]) hcell (fun u hu => by obtain ⟨z, -, rfl⟩ := List.mem_map.1 hu; rfl) b1 ?_
    intro w' h1 h2
    exact h w' ⟨by rw [nums_append]; exact h1⟩ ⟨h2⟩
/-- The copy's block, filled from the copy's end on. -/
def filled (xs : List Int) (k : Nat) (cur : Array Value) : Prop := cur.size = xs.length + 3 ∧ (∀ j, j < xs.length → cur[j]? = some (.int .u8 (xs.getD j 0))) ∧ ∀ j, xs.length ≤ j → j < k → cur[j]? = some (.int .u8 71)
/-- A copy with spare room. -/
def OwnAt (w : World) (g : Nat) (xs : List Int) : Prop := ∃ cur, w.heap[g]? = some (.cells cur 5 (0, 0)) ∧ filled xs (xs.length + 3) cur
theorem filled_put {xs : List Int} {k : Nat} {cur : Array Value} (h : filled xs k cur) (hk : k < xs.length + 3) (h0 : xs.length ≤ k) : filled xs (k + 1) (cur.setIfInBounds k (.int .u8 71)) := by
  obtain ⟨h1, h2, h3⟩ := h
  refine ⟨by simpa using h1, fun j hj => ?_, fun j hj hjk => ?_⟩
  · rw [Array.getElem?_setIfInBounds_ne (by omega)]
    exact h2 j hj
  · by_cases e : k = j
    · subst e
      rw [Array.getElem?_setIfInBounds_self_of_lt (by omega)]
    · rw [Array.getElem?_setIfInBounds_ne e]
      exact h3 j hj (by omega)
theorem own_calls (A : Option Addr) (n c : Nat) (xs : List Int) (w : World) (h : (Kd.int .u8).C w A n xs) (hl : n ≤ 100000) :
    Calls Tryz.prog 5 #[.slice A n c, .int .u8 71] w fun e w' => e = .returned (.slice (some ⟨w.heap.size, 0, none⟩) n (n + 3)) ∧ Below w.heap.size w w' ∧ OwnAt w' w.heap.size xs := by
  obtain rfl := (C_len h).1
  have HC := Kp.mk h
  clear h
  obtain ⟨i0, hi0, hzz⟩ := Option.map_eq_some_iff.1 (show (Tryz.prog.info? 5).map (fun i => (i.zero, i.size, i.bytes)) = some (some (.int .u8 0), 1, 1) by kernel_rfl)
  simp only [Prod.mk.injEq] at hzz
  obtain ⟨hz0, hz1, hz2⟩ := hzz
  have hmk := fun w : World => run_makeSlice (P := Tryz.prog) w 22 5 i0 (.int .u8 0) Tryz.underlying22 hi0 hz0 .i64 .i64 0 ((xs.length : Int) + 3) (by omega) (by omega) (by rw [hz1]; omega) (by rw [hz2]; omega) (by omega)
  have htn : ((xs.length : Int) + 3).toNat = xs.length + 3 := by omega
  simp only [htn, hz1, Int.toNat_zero] at hmk
  clear htn hz0 hz1 hz2 hi0
  have HO : Kp ((w.alloc (.cells (madeCells #[Value.int IntKind.u8 0] (xs.length + 3)) 5)).ownsRow w.heap.size 5 1 (.slice (some ⟨w.heap.size, 0, none⟩) 0 (xs.length + 3)) 0 (nums .u8 [])) := Kp.mk (World.ownsRow_made (base := w.heap.size) (e := 5) (size := 1) w (madeCells #[Value.int IntKind.u8 0] (xs.length + 3)) (xs.length + 3) (Nat.le_refl _) (by simp [maxLen]; omega) (by simp [size_madeCells]))
  have HCA := Kp.mk (Kd.C_below HC.out ((Below.refl w.heap.size w).alloc (Nat.le_refl _) (.cells (madeCells #[Value.int IntKind.u8 0] (xs.length + 3)) 5)))
  go_enter Tryz.func5, Tryz.ntmps5
  go_wp2_with (at_builtin; with_reducible refine gate_builtin (b := .append) (xs := #[.tmp 12, .tmp 13]) rfl ?_; go_must (refine app_fits (base := w.heap.size) (s := .tmp 12) (x := .tmp 13) rfl rfl w.heap.size 0 (xs.length + 3) [] xs A xs.length c rfl rfl HO.out HCA.out (by omega) ?_))
  intro w1 HO1 HG1
  clear HO HCA hmk
  have HF1 : Kp (∃ cur, w1.heap[w.heap.size]? = some (.cells cur 5 (0, 0)) ∧ filled xs xs.length cur) := ⟨by
    obtain ⟨-, h⟩ := HO1.out
    rcases h with ⟨h, -⟩ | ⟨g, cap, cur, hv, -, hh, -, -, hs, ht⟩
    · cases h
    · injection hv with hv1 _ hv3
      injection hv1 with hv1
      injection hv1 with hv1
      subst hv1
      refine ⟨cur, hh, by rw [hs, ← hv3]; simp, fun j hj => ?_, fun j h1 h2 => by omega⟩
      have h3 := congrArg (fun l => l[j]?) ht
      simp only [List.nil_append, Nat.mul_one] at h3
      rw [List.getElem?_take_of_lt hj, Array.getElem?_toList] at h3
      rw [h3]
      simp [nums, List.getElem?_eq_getElem hj]⟩
  have HB1 : Kp (Below w.heap.size w w1) := ⟨((Below.refl w.heap.size w).alloc (Nat.le_refl _) _).grown HG1.out (by simp) (fun k hk => by injection hk with hk; omega)⟩
  clear HO1 HG1
  go_wp2_with (fail)
  go_loopw [7] (fun i wr => ∃ k : Nat, xs.length ≤ k ∧ k ≤ xs.length + 3 ∧ i = .int .i64 k ∧ Kp (Below w.heap.size w wr) ∧ Kp (∃ cur, wr.heap[w.heap.size]? = some (.cells cur 5 (0, 0)) ∧ filled xs k cur)) (fun i _ => xs.length + 3 - (intOf i).toNat)
  case atStart => exact ⟨xs.length, Nat.le_refl _, by omega, rfl, HB1, HF1⟩
  case round =>
    obtain ⟨k, hk0, hk, rfl, HW, HF⟩ := hrel
    by_cases hlt : k < xs.length + 3
    · obtain ⟨cur, hcur, hfil⟩ := HF.out
      have hks : k < cur.size := by rw [hfil.1]; exact hlt
      obtain ⟨u, hcell⟩ : ∃ u, wr.cell? ⟨w.heap.size, k, none⟩ = some u := ⟨_, by rw [blk_cell hcur k, Array.getElem?_eq_getElem hks]⟩
      have hfz := blk_frozen hcur k
      have HP : Kp (∃ cur, (wr.setCell ⟨w.heap.size, k, none⟩ (.int .u8 71)).heap[w.heap.size]? = some (.cells cur 5 (0, 0)) ∧ filled xs (k + 1) cur) := ⟨⟨_, blk_put hcur k (.int .u8 71) rfl, filled_put hfil hlt hk0⟩⟩
      have i1 : decide ((k : Int) < (xs.length : Int) + 3) = true := by simp; omega
      clear hcur hfil hks
      go_wp2
      exact ⟨⟨k + 1, by omega, by omega, by go_num, ⟨HW.out.setCell (Nat.le_refl _) _⟩, HP⟩, by simp [intOf]; omega⟩
    · obtain rfl : k = xs.length + 3 := by omega
      have i1 : decide (((xs.length : Int) + 3) < (xs.length : Int) + 3) = false := by simp
      go_wp2
      go_ret
      exact ⟨rfl, HW.out, HF.out⟩
theorem sameb1_calls (x y : Int) (w : World) : Calls Tryz.prog 59 #[.int .u8 x, .int .u8 y] w fun e w' => e = .returned (.bool (x == y)) ∧ w = w' := by
  go_enter Tryz.func59, Tryz.ntmps59
  go_wp2
  go_ret
  exact ⟨rfl, rfl⟩
theorem sameb_calls (A B : Option Addr) (n m c d : Nat) (xs : List Int) (w : World) (h : (Kd.int .u8).C w A n xs) (h2 : (Kd.int .u8).C w B m xs) :
    Calls Tryz.prog 58 #[.slice A n c, .slice B m d, .func (.func 59) #[] #[]] w fun e w' => e = .returned (.bool true) ∧ Below w.heap.size w w' := by
  obtain rfl := (C_len h).1
  obtain rfl := (C_len h2).1
  have hm := (C_len h).2
  have HC := Kp.mk h
  have HD := Kp.mk h2
  clear h h2
  go_enter Tryz.func58, Tryz.ntmps58
  go_wp2_with (fail)
  go_loopw [7] (fun i wr => ∃ k : Nat, k ≤ xs.length ∧ i = .int .i64 k ∧ Kp (Below w.heap.size w wr)) (fun i _ => xs.length - (intOf i).toNat)
  case atStart => exact ⟨0, Nat.zero_le _, rfl, ⟨Below.refl _ _⟩⟩
  case round =>
    obtain ⟨k, hk, rfl, HW⟩ := hrel
    by_cases hlt : k < xs.length
    · obtain ⟨ad, rfl, hcell⟩ := at_nat (Kd.C_below HC.out HW.out) k hlt
      obtain ⟨bd, rfl, hcell2⟩ := at_nat (Kd.C_below HD.out HW.out) k hlt
      obtain ⟨x, hx⟩ : ∃ x, xs.getD k 0 = x := ⟨_, rfl⟩
      rw [hx] at hcell hcell2
      have bx : (x == x) = true := by simp
      have i0 : (0 : Int) ≤ (k : Int) := by omega
      have i1 : (k : Int) < (xs.length : Int) := by omega
      clear hx
      go_wp2_with (fail)
      go_quiet ((go_at_call 59; exact quiet_l (sameb1_calls _ _ _)))
      go_wp2
      exact ⟨⟨k + 1, by omega, by go_num, ⟨pw_below_drewN HW.out _⟩⟩, by simp [intOf]; omega⟩
    · obtain rfl : k = xs.length := by omega
      go_wp2
      go_ret
      exact ⟨rfl, HW.out⟩
theorem OwnAt.grow {w w1 : World} {g : Nat} {xs : List Int} (h : OwnAt w g xs) (hb : Below w.heap.size w w1) : OwnAt w1 g xs := by
  obtain ⟨cur, h1, h2⟩ := h
  exact ⟨cur, (hb.block g (heap_lt h1)).trans h1, h2⟩
theorem OwnAt.C {w : World} {g : Nat} {xs : List Int} (h : OwnAt w g xs) (hl : xs.length ≤ 9223372036854775807) : (Kd.int .u8).C w (some ⟨g, 0, none⟩) xs.length xs := by
  obtain ⟨cur, h1, h2⟩ := h
  refine Kd.C_of_reads (d := 0) ⟨rfl, hl, fun _ => ⟨_, rfl, fun j hj => ?_⟩⟩
  rw [add_plain, blk_cell h1 j, h2.2.1 j hj]
theorem plainb_calls (A B : Option Addr) (n m c d : Nat) (xs : List Int) (w : World) (h : (Kd.int .u8).C w A n xs) (h2 : (Kd.int .u8).C w B m xs) :
    Calls Tryz.prog 40 #[.slice A n c, .slice B m d] w fun e w' => e = .returned (.bool true) ∧ Below w.heap.size w w' := by
  have HC := Kp.mk h
  have HD := Kp.mk h2
  clear h h2
  go_enter Tryz.func40, Tryz.ntmps40
  go_wp2_with (fail)
  refine (sameb_calls _ _ _ _ _ _ xs _ HC.out HD.out).mono ?_
  rintro e w1 ⟨rfl, hb⟩
  have HB := Kp.mk hb
  clear hb
  go_wp2
  go_ret
  exact ⟨rfl, HB.out⟩
theorem kept_calls (g : Nat) (A : Option Addr) (n c : Nat) (xs : List Int) (w : World) (ho : OwnAt w g xs) (h : (Kd.int .u8).C w A n xs) (hl : n ≤ 100000) :
    Calls Tryz.prog 19 #[.slice (some ⟨g, 0, none⟩) n (n + 3), .slice A n c, .int .u8 71] w fun e w' => e = .returned (.bool true) ∧ Below w.heap.size w w' := by
  obtain rfl := (C_len h).1
  have HC := Kp.mk h
  have HO := Kp.mk ho
  have HC0 := Kp.mk (ho.C (by omega))
  clear h ho
  go_enter Tryz.func19, Tryz.ntmps19
  go_wp2_with (fail)
  refine (plainb_calls _ _ _ _ _ _ xs _ HC0.out HC.out).mono ?_
  rintro e w1 ⟨rfl, hb⟩
  have HB := Kp.mk hb
  have HO1 := Kp.mk (HO.out.grow hb)
  clear hb
  go_wp2_with (fail)
  go_loop [8] (fun i => ∃ k : Nat, xs.length ≤ k ∧ k ≤ xs.length + 3 ∧ i = .int .i64 k) (fun i => xs.length + 3 - (intOf i).toNat)
  case atStart => exact ⟨xs.length, Nat.le_refl _, by omega, rfl⟩
  case round =>
    obtain ⟨k, hk0, hk, rfl⟩ := hrel
    by_cases hlt : k < xs.length + 3
    · have hcell : w1.cell? ⟨g, k, none⟩ = some (.int .u8 71) := by
        obtain ⟨cur, hcur, hfil⟩ := HO1.out
        rw [blk_cell hcur k]
        exact hfil.2.2 k hk0 hlt
      have i1 : decide ((k : Int) < (xs.length : Int) + 3) = true := by simp; omega
      go_wp2
      exact ⟨⟨k + 1, by omega, by omega, by go_num⟩, by simp [intOf]; omega⟩
    · obtain rfl : k = xs.length + 3 := by omega
      have i1 : decide (((xs.length : Int) + 3) < (xs.length : Int) + 3) = false := by simp
      go_wp2
      go_ret
      exact ⟨rfl, HB.out⟩
/-! texts -/
theorem sames1_calls (x y : ByteArray) (w : World) : Calls Tryz.prog 36 #[.string x, .string y] w fun e w' => e = .returned (.bool (x.toList == y.toList)) ∧ w = w' := by
  go_enter Tryz.func36, Tryz.ntmps36
  go_wp2
  go_ret
  exact ⟨rfl, rfl⟩
theorem sames_calls (A B : Option Addr) (n m c d : Nat) (xs : List ByteArray) (w : World) (h : Kd.string.C w A n xs) (h2 : Kd.string.C w B m xs) :
    Calls Tryz.prog 35 #[.slice A n c, .slice B m d, .func (.func 36) #[] #[]] w fun e w' => e = .returned (.bool true) ∧ Below w.heap.size w w' := by
  obtain rfl := (C_len h).1
  obtain rfl := (C_len h2).1
  have hm := (C_len h).2
  have HC := Kp.mk h
  have HD := Kp.mk h2
  clear h h2
  go_enter Tryz.func35, Tryz.ntmps35
  go_wp2_with (fail)
  go_loopw [7] (fun i wr => ∃ k : Nat, k ≤ xs.length ∧ i = .int .i64 k ∧ Kp (Below w.heap.size w wr)) (fun i _ => xs.length - (intOf i).toNat)
  case atStart => exact ⟨0, Nat.zero_le _, rfl, ⟨Below.refl _ _⟩⟩
  case round =>
    obtain ⟨k, hk, rfl, HW⟩ := hrel
    by_cases hlt : k < xs.length
    · obtain ⟨ad, rfl, hcell⟩ := at_natS (Kd.C_below HC.out HW.out) k hlt
      obtain ⟨bd, rfl, hcell2⟩ := at_natS (Kd.C_below HD.out HW.out) k hlt
      obtain ⟨x, hx⟩ : ∃ x, xs.getD k ByteArray.empty = x := ⟨_, rfl⟩
      rw [hx] at hcell hcell2
      have bx : (x.toList == x.toList) = true := by simp
      have i0 : (0 : Int) ≤ (k : Int) := by omega
      have i1 : (k : Int) < (xs.length : Int) := by omega
      clear hx
      go_wp2_with (fail)
      go_quiet ((go_at_call 36; exact quiet_l (sames1_calls _ _ _)))
      go_wp2
      exact ⟨⟨k + 1, by omega, by go_num, ⟨pw_below_drewN HW.out _⟩⟩, by simp [intOf]; omega⟩
    · obtain rfl : k = xs.length := by omega
      go_wp2
      go_ret
      exact ⟨rfl, HW.out⟩
theorem plains_calls (A B : Option Addr) (n m c d : Nat) (xs : List ByteArray) (w : World) (h : Kd.string.C w A n xs) (h2 : Kd.string.C w B m xs) :
    Calls Tryz.prog 14 #[.slice A n c, .slice B m d] w fun e w' => e = .returned (.bool true) ∧ Below w.heap.size w w' := by
  have HC := Kp.mk h
  have HD := Kp.mk h2
  clear h h2
  go_enter Tryz.func14, Tryz.ntmps14
  go_wp2_with (fail)
  refine (sames_calls _ _ _ _ _ _ xs _ HC.out HD.out).mono ?_
  rintro e w1 ⟨rfl, hb⟩
  have HB := Kp.mk hb
  clear hb
  go_wp2
  go_ret
  exact ⟨rfl, HB.out⟩
end Go.Proofs.YtimaliamidgflaaGreatDoor
