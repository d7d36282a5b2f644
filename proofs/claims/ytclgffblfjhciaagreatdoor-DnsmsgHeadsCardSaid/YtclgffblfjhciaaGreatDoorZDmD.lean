/-
  slices.Grow (at nil), slices.Concat, at rows of records (their cells alone), by their contracts.
-/
import Derived.Test.YtclgffblfjhciaaGreatDoorApp
import Derived.Test.YtclgffblfjhciaaGreatDoorCx
import Derived.Test.YtclgffblfjhciaaGreatDoorZDmA
import Derived.Test.YtclgffblfjhciaaGreatDoorWApart
import Derived.Lib.AppendZerosOnto
namespace Go.Proofs.YtclgffblfjhciaaGreatDoor
open Go.RowKit Go.Proofs.YtclgffblfjhciaaGreatDoorW.PrintWords
set_option linter.unusedVariables false
set_option linter.unusedSimpArgs false
set_option maxRecDepth 100000
set_option maxHeartbeats 1000000

section
variable {ops : Array Oper} {rest : List Oper} {o : Oper} {a : Act} {Q : Exit → Act → World → Prop} {w0 W : World} {base : Nat} {v : Value} {s x : Operand}
/-- Records behind records, their cells alone. -/
theorem app_rows (hgd : o.guard = none) (ho : o.op = .call { callee := .builtin .append, args := #[s, x], argTypes := #[69, 69] })
    (xs ys : List (List Value)) (A : Option Addr) (m c : Nat) (hs : a.eval s = v) (hx : a.eval x = .slice A m c) (HO : (Kd.raw 23).R 37 W base (fun _ => True) v xs) (HR : (Kd.raw 23).C W A m ys) (HB : Below base w0 W) (hbase : base ≤ W.heap.size) (hl : (xs.length + m) * 96 ≤ 140737488355328)
    (h : ∀ v1 w1, Kp ((Kd.raw 23).R 37 w1 base (fun _ => True) v1 (xs ++ ys)) → Kp (Below base w0 w1) → Kp (base ≤ w1.heap.size) → wpList Tryz.prog ops Q rest (a.put o.dst v1) w1) :
    wpList Tryz.prog ops Q (o :: rest) a W :=
  Kd.R_append_rows (w0 := w0) (Kd.raw 23) base hgd s x 69 37 (.agg #[.string ⟨#[]⟩, .int .i64 0, .int .i64 0, .int .u32 0, .bool false, .int .u8 0, .int .u8 0, .int .u8 0, .int .u8 0, .int .u8 0, .int .u8 0, .int .u8 0, .int .u8 0, .int .u8 0, .int .u8 0, .int .u8 0, .int .u8 0, .int .u8 0, .int .u8 0, .int .u8 0, .int .u8 0, .string ⟨#[]⟩, .slice none 0 0]) 96 ho Tryz.underlying69 (by kernel_rfl) rfl (by decide) (by decide) v xs ys A m c (fun _ => True) (fun _ => False) hs hx HO HR (fun _ _ h => h) (fun _ h => h.elim) (fun _ _ => trivial) HB hbase hl
    (fun v1 w1 h1 h2 h3 _ => h v1 w1 ⟨h1⟩ ⟨h2⟩ ⟨Nat.le_trans hbase h3.size⟩)
end
theorem app_runR {ops : Array Oper} {rest : List Oper} {o : Oper} {a : Act} {Q : Exit → Act → World → Prop} {W W' : World} {s x : Operand} {t u : TypeId} {v1 v2 v : Value} (hgd : o.guard = none) (ho : o.op = .call { callee := .builtin .append, args := #[s, x], argTypes := #[t, u] })
    (hs : a.eval s = v1) (hx : a.eval x = v2) (hrun : (Builtin.append_ #[t, u] o.type #[v1, v2]).run Tryz.prog W = .ok v W') (h : wpList Tryz.prog ops Q rest (a.put o.dst v) W') : wpList Tryz.prog ops Q (o :: rest) a W := by
  refine wpList_plain hgd fun K hK => ?_
  unfold Oper.wp execOp
  simp only [ho, resolve, invoke, builtin, Sem.run_bind, Sem.run_pure, Result.andThen_ok, List.map_toArray, List.map_cons, List.map_nil, hs, hx, hrun]
  exact hK _ _ h
theorem growR_nil (n : Nat) (w : World) (hn : n * 96 ≤ 140737488355328) :
    Calls Tryz.prog 111 #[.slice none 0 0, .int .i64 n] w fun e w' => (∃ v, e = .returned v ∧ (Kd.raw 23).R 37 w' w.heap.size (fun _ => True) v []) ∧ Below w.heap.size w w' := by
  by_cases h0 : n = 0
  · subst h0
    go_enter Tryz.func111, Tryz.ntmps111
    go_wp2
    go_ret
    exact ⟨⟨_, rfl, Kd.R_nil _ _ _ _ _⟩, Below.refl _ _⟩
  · obtain ⟨i0, hi0, hzz⟩ := Option.map_eq_some_iff.1 (show (Tryz.prog.info? 37).map (fun i => (i.zero, i.size, i.bytes)) = some (some (.agg #[.string ⟨#[]⟩, .int .i64 0, .int .i64 0, .int .u32 0, .bool false, .int .u8 0, .int .u8 0, .int .u8 0, .int .u8 0, .int .u8 0, .int .u8 0, .int .u8 0, .int .u8 0, .int .u8 0, .int .u8 0, .int .u8 0, .int .u8 0, .int .u8 0, .int .u8 0, .int .u8 0, .int .u8 0, .string ⟨#[]⟩, .slice none 0 0]), 23, 96) by kernel_rfl)
    simp only [Prod.mk.injEq] at hzz
    obtain ⟨hz0, hz1, hz2⟩ := hzz
    have hrz := fun ty => Lib.run_append_grow_zeros (P := Tryz.prog) w 69 3 ty 37 i0 (.agg #[.string ⟨#[]⟩, .int .i64 0, .int .i64 0, .int .u32 0, .bool false, .int .u8 0, .int .u8 0, .int .u8 0, .int .u8 0, .int .u8 0, .int .u8 0, .int .u8 0, .int .u8 0, .int .u8 0, .int .u8 0, .int .u8 0, .int .u8 0, .int .u8 0, .int .u8 0, .int .u8 0, .int .u8 0, .string ⟨#[]⟩, .slice none 0 0]) .i64 .i64 Tryz.underlying69 Tryz.underlying3 hi0 hz0 none 0 0 [] (run_firstCells_none w.drew i0.size 0 0 0) n (by omega) (by rw [hz1]; decide) (by omega) (by omega) (by rw [hz2]; omega) (growslice_fits (by omega) (by rw [hz2]; omega))
    simp only [Nat.zero_add] at hrz
    have hGn : n ≤ grownCap w n 0 37 := grownCap_ge w _ _ _
    have hGm := grownCap_le_maxLen w n 0 37 (by unfold maxLen; omega)
    obtain ⟨G, hG⟩ : ∃ G, grownCap w n 0 37 = G := ⟨_, rfl⟩
    rw [hG] at hrz hGn hGm
    have HGM := Kp.mk hGm
    obtain ⟨cur, hcur⟩ : ∃ cur, ([] : List Value).toArray ++ Builtin.zeroCells (Value.agg #[.string ⟨#[]⟩, .int .i64 0, .int .i64 0, .int .u32 0, .bool false, .int .u8 0, .int .u8 0, .int .u8 0, .int .u8 0, .int .u8 0, .int .u8 0, .int .u8 0, .int .u8 0, .int .u8 0, .int .u8 0, .int .u8 0, .int .u8 0, .int .u8 0, .int .u8 0, .int .u8 0, .int .u8 0, .string ⟨#[]⟩, .slice none 0 0]).cells n ++ Builtin.zeroCells (Value.agg #[.string ⟨#[]⟩, .int .i64 0, .int .i64 0, .int .u32 0, .bool false, .int .u8 0, .int .u8 0, .int .u8 0, .int .u8 0, .int .u8 0, .int .u8 0, .int .u8 0, .int .u8 0, .int .u8 0, .int .u8 0, .int .u8 0, .int .u8 0, .int .u8 0, .int .u8 0, .int .u8 0, .int .u8 0, .string ⟨#[]⟩, .slice none 0 0]).cells (G - n) = cur := ⟨_, rfl⟩
    have hcs : cur.size = G * 23 := by
      rw [← hcur]
      simp [Builtin.zeroCells, Value.cells]
      omega
    rw [hcur] at hrz
    have HCS := Kp.mk hcs
    have hG9 : G ≤ 9223372036854775807 := by simpa [maxLen] using hGm
    have b0 : decide (0 < (n : Int)) = true := by simp; omega
    have b1 : decide ((n : Int) < 0) = false := by simp
    clear hG hcur hi0 hz0 hz1 hz2 hGm hcs
    go_enter Tryz.func111, Tryz.ntmps111
    have HRZ := Kp.mk hrz
    clear hrz
    go_wp2_with (at_builtin; with_reducible refine gate_builtin (b := .append) (xs := #[.tmp 20, .tmp 21]) rfl ?_; go_must (refine app_runR rfl rfl rfl rfl (HRZ.out _) ?_))
    go_ret
    refine ⟨⟨_, rfl, ?_⟩, (below_drew (Below.refl _ _)).alloc (Nat.le_refl _) _⟩
    exact ⟨fun _ _ => trivial, [], World.ownsRow_made w.drew cur G (Nat.le_refl _) HGM.out HCS.out, Reps.none _ _⟩
theorem at_rowR {w : World} {A : Option Addr} {n : Nat} {xss : List (List (List Value))} (h : (Kd.slice 37 (Kd.raw 23)).C w A n xss) (i : Nat) (hi : i < n) : ∃ ad A' c', A = some ad ∧ w.cell? (ad.add i) = some (.slice A' (xss.getD i []).length c') ∧ (xss.getD i []).length ≤ c' ∧ (Kd.raw 23).C w A' (xss.getD i []).length (xss.getD i []) := by
  obtain ⟨ad, c, e, -, hK, hc⟩ := Kd.C_get h [] (i : Int) (by omega) (by omega)
  rw [Int.toNat_natCast] at hK hc
  obtain ⟨A', c', rfl, h1, h2⟩ := hK
  refine ⟨ad, A', c', e, ?_, h1, h2⟩
  have h3 := hc 0 _ rfl
  have e1 : i * (Kd.slice 37 (Kd.raw 23)).sz + 0 = i := by show i * 1 + 0 = i; omega
  rwa [e1] at h3
theorem concatR_calls (A : Option Addr) (c : Nat) (xss : List (List (List Value))) (w : World) (h : (Kd.slice 37 (Kd.raw 23)).C w A xss.length xss) (hl : xss.flatten.length * 96 ≤ 140737488355328) :
    Calls Tryz.prog 76 #[.slice A xss.length c] w (Gives (Kd.slice 37 (Kd.raw 23)) xss.flatten w) := by
  have hm := (C_len h).2
  have HC := Kp.mk h
  have HL := Kp.mk hl
  clear h
  go_enter Tryz.func76, Tryz.ntmps76
  go_wp2_with (fail)
  have hfl : ∀ k, ((xss.take k).flatten).length ≤ xss.flatten.length := fun k => by
    conv => rhs; rw [← List.take_append_drop k xss, List.flatten_append, List.length_append]
    omega
  obtain ⟨F, hF⟩ : ∃ F : Nat → Nat, ∀ k, ((xss.take k).flatten).length = F k := ⟨_, fun _ => rfl⟩
  have hFz : F xss.length = xss.flatten.length := by rw [← hF, List.take_length]
  have hF0 : F 0 = 0 := by rw [← hF]; rfl
  have HFL := Kp.mk (fun k => (hF k) ▸ hfl k)
  have HF := Kp.mk hF
  have HFZ := Kp.mk hFz
  have HF0 := Kp.mk hF0
  clear hfl hF hFz hF0
  go_loop [3, 11] (fun z i => ∃ k : Nat, k ≤ xss.length ∧ i = .int .i64 k ∧ z = .int .i64 (F k)) (fun _ i => xss.length - (intOf i).toNat)
  case atStart => exact ⟨0, Nat.zero_le _, rfl, by rw [HF0.out]; rfl⟩
  case round =>
    obtain ⟨k, hk, rfl, rfl⟩ := hrel
    by_cases hlt : k < xss.length
    · obtain ⟨ad, A', c', rfl, hcell, -, -⟩ := at_rowR HC.out k hlt
      have hts := take_snoc xss [] k hlt
      obtain ⟨x, hx⟩ : ∃ x, xss.getD k [] = x := ⟨_, rfl⟩
      rw [hx] at hcell hts
      have hsn : F (k + 1) = F k + x.length := by
        rw [← HF.out, ← HF.out, hts, List.flatten_append, List.length_append]
        simp
      have hle : (F k + x.length) * 96 ≤ 140737488355328 := by
        have h1 := HFL.out (k + 1)
        have h2 := HL.out
        rw [hsn] at h1
        omega
      have HSN := Kp.mk hsn
      clear hx hts hsn
      go_wp2
      exact ⟨⟨k + 1, by omega, by go_num, by rw [HSN.out]; go_num⟩, by simp [intOf]; omega⟩
    · obtain rfl : k = xss.length := by omega
      have ht : xss.take xss.length = xss := List.take_length
      have hfx : F xss.length * 96 ≤ 140737488355328 := by rw [HFZ.out]; exact HL.out
      clear hlt
      go_wp2_with (fail)
      refine (growR_nil _ _ (by omega)).mono ?_
      rintro e w1 ⟨⟨v, rfl, hR⟩, hb⟩
      have HR := Kp.mk hR
      have HB := Kp.mk hb
      clear hR hb
      go_wp2_with (fail)
      go_loopw [6, 27] (fun v i wr => ∃ k : Nat, k ≤ xss.length ∧ i = .int .i64 k ∧ Kp (Below w.heap.size w wr) ∧ Kp ((Kd.raw 23).R 37 wr w.heap.size (fun _ => True) v ((xss.take k).flatten))) (fun _ i _ => xss.length - (intOf i).toNat)
      case atStart => exact ⟨0, Nat.zero_le _, rfl, HB, HR⟩
      case round =>
        obtain ⟨k, hk, rfl, HW, HRk⟩ := hrel
        by_cases hlt : k < xss.length
        · obtain ⟨ad, A', c', rfl, hcell, hc', hC'⟩ := at_rowR (Kd.C_below HC.out HW.out) k hlt
          have hts := take_snoc xss [] k hlt
          obtain ⟨x, hx⟩ : ∃ x, xss.getD k [] = x := ⟨_, rfl⟩
          rw [hx] at hcell hts hc' hC'
          have hsn : (xss.take (k + 1)).flatten = (xss.take k).flatten ++ x := by rw [hts]; simp
          have hle := HFL.out (k + 1)
          rw [← HF.out, hsn, List.length_append] at hle
          have hl := HL.out
          have hlb : (((xss.take k).flatten).length + x.length) * 96 ≤ 140737488355328 := by omega
          clear hle hl
          have HSN := Kp.mk hsn
          have HC' := Kp.mk hC'
          have hsz := HW.out.size
          clear hx hts hsn hC'
          obtain ⟨ys, hy⟩ : ∃ ys, (xss.take k).flatten = ys := ⟨_, rfl⟩
          rw [hy] at hlb HSN HRk
          clear hy
          go_wp2_with (at_builtin; with_reducible refine gate_builtin (b := .append) (xs := #[.tmp 31, .tmp 32]) rfl ?_; go_must (refine app_rows (w0 := w) (s := .tmp 31) (x := .tmp 32) (v := u6) (base := w.heap.size) rfl rfl ys x A' x.length c' rfl rfl HRk.out HC'.out HW.out hsz hlb ?_))
          intro v1 wa HR1 HW1 hs1
          go_wp2
          exact ⟨⟨k + 1, by omega, by go_num, HW1, ⟨by rw [HSN.out]; exact HR1.out⟩⟩, by simp [intOf]; omega⟩
        · obtain rfl : k = xss.length := by omega
          have ht : xss.take xss.length = xss := List.take_length
          rw [ht] at HRk
          clear ht hlt
          go_wp2
          go_ret
          exact ⟨_, rfl, ⟨_, rfl, HRk.out⟩, HW.out⟩
/-- A row's cells; what they say. -/
theorem C_raw {α : Type} {d : Kd α} {w : World} {A : Option Addr} {n : Nat} {ps : List α} (h : d.C w A n ps) : ∃ rows : List (List Value), (Kd.raw d.sz).C w A n rows ∧ rows.length = ps.length ∧ ∀ (j : Nat) (p : α), ps[j]? = some p → ∃ row, rows[j]? = some row ∧ d.K w p row := by
  obtain ⟨h1, h2, h3⟩ := h
  by_cases h0 : n = 0
  · subst h0
    obtain rfl := List.length_eq_zero_iff.1 h1
    exact ⟨[], ⟨rfl, h2, fun h => absurd h (Nat.lt_irrefl _)⟩, rfl, fun j p hj => by simp at hj⟩
  obtain ⟨ad, ha, hc⟩ := h3 (Nat.pos_of_ne_zero h0)
  have hch : ∀ j : Nat, ∃ c : List Value, ∀ p, ps[j]? = some p → c.length = d.sz ∧ d.K w p c ∧ ∀ (i : Nat) (u : Value), c[i]? = some u → w.cell? (ad.add (j * d.sz + i)) = some u := fun j => by
    cases hj : ps[j]? with
    | none => exact ⟨[], fun p hp => by cases hp⟩
    | some p =>
      obtain ⟨c, k1, k2, k3⟩ := hc j p hj
      exact ⟨c, fun q hq => by cases hq; exact ⟨k1, k2, k3⟩⟩
  have hrow : ∀ (j : Nat) (row : List Value), ((List.range ps.length).map fun j => Classical.choose (hch j))[j]? = some row → j < ps.length ∧ row = Classical.choose (hch j) := fun j row hj => by
    rw [List.getElem?_map] at hj
    obtain ⟨i, hi, rfl⟩ := Option.map_eq_some_iff.1 hj
    obtain ⟨hi1, hi2⟩ := List.getElem?_eq_some_iff.1 hi
    rw [List.length_range] at hi1
    rw [List.getElem_range] at hi2
    subst hi2
    exact ⟨hi1, rfl⟩
  refine ⟨(List.range ps.length).map fun j => Classical.choose (hch j), ⟨by rw [List.length_map, List.length_range]; exact h1, h2, fun _ => ⟨ad, ha, fun j row hj => ?_⟩⟩, by rw [List.length_map, List.length_range], fun j p hj => ?_⟩
  · obtain ⟨hl, rfl⟩ := hrow j row hj
    obtain ⟨k1, k2, k3⟩ := Classical.choose_spec (hch j) _ (List.getElem?_eq_getElem hl)
    exact ⟨_, k1, ⟨rfl, k1, d.K_one k2⟩, k3⟩
  · obtain ⟨hl, -⟩ := List.getElem?_eq_some_iff.1 hj
    exact ⟨Classical.choose (hch j), by rw [List.getElem?_map, List.getElem?_range hl]; rfl, (Classical.choose_spec (hch j) p hj).2.1⟩
theorem C_of_raw {α : Type} {d : Kd α} {w : World} {A : Option Addr} {n : Nat} {ps : List α} {rows : List (List Value)} (h : (Kd.raw d.sz).C w A n rows) (hl : rows.length = ps.length) (hk : ∀ (j : Nat) (p : α), ps[j]? = some p → ∃ row, rows[j]? = some row ∧ d.K w p row) : d.C w A n ps := by
  obtain ⟨h1, h2, h3⟩ := h
  refine ⟨by rw [← hl]; exact h1, h2, fun h0 => ?_⟩
  obtain ⟨ad, ha, hc⟩ := h3 h0
  refine ⟨ad, ha, fun j p hj => ?_⟩
  obtain ⟨row, hr, hK⟩ := hk j p hj
  obtain ⟨c, k1, ⟨rfl, -, -⟩, k3⟩ := hc j row hr
  exact ⟨c, k1, hK, k3⟩
/-- A row of rows, in a new block of its own. -/
theorem lit_rowsD {α : Type} {d : Kd α} {t : Nat} {w : World} {T : TypeId} (vs : List Value) (xss : List (List α)) (hl : vs.length = xss.length) (hm : vs.length ≤ 9223372036854775807)
    (h : ∀ j, j < xss.length → ∃ A c, vs[j]? = some (.slice A (xss.getD j []).length c) ∧ (xss.getD j []).length ≤ c ∧ d.C w A (xss.getD j []).length (xss.getD j [])) :
    (Kd.slice t d).C (w.alloc (.cells vs.toArray T)) (some ⟨w.heap.size, 0, none⟩) xss.length xss := by
  refine ⟨rfl, by omega, fun _ => ⟨_, rfl, fun j p hj => ?_⟩⟩
  obtain ⟨hlt, hp⟩ := List.getElem?_eq_some_iff.1 hj
  obtain ⟨A, c, h1, h2, h3⟩ := h j hlt
  have e : xss.getD j [] = p := by rw [List.getD_eq_getElem?_getD, hj]; rfl
  rw [e] at h1 h2 h3
  refine ⟨[.slice A p.length c], rfl, ⟨A, c, rfl, h2, Kd.C_below h3 ((Below.refl _ _).alloc (Nat.le_refl _) _)⟩, fun i u hu => ?_⟩
  cases i with
  | zero =>
    obtain rfl : .slice A p.length c = u := by simpa using hu
    have e1 : j * (Kd.slice t d).sz + 0 = j := by show j * 1 + 0 = j; omega
    rw [e1, add_plain, blk_cell (heap_new w (.cells vs.toArray T)), List.getElem?_toArray]
    exact h1
  | succ i => simp at hu
theorem slice_MR {α : Type} {d : Kd α} {t : Nat} {w : World} {b : Nat} {ok : Nat → Prop} {xs : List α} {v : Value} (h : (Kd.slice t d).M w b ok xs [v]) : d.R t w b ok v xs := by
  obtain ⟨u, hu, hR⟩ := h
  obtain rfl := List.singleton_inj.1 hu
  exact hR
/-- Three rows of records, one behind the other. -/
theorem all_calls (A1 A2 A3 : Option Addr) (c1 c2 c3 : Nat) (l1 l2 l3 : List Rec) (w : World) (h1 : recK.C w A1 l1.length l1) (k1 : l1.length ≤ c1) (h2 : recK.C w A2 l2.length l2) (k2 : l2.length ≤ c2) (h3 : recK.C w A3 l3.length l3) (k3 : l3.length ≤ c3) (hl : (l1.length + l2.length + l3.length) * 96 ≤ 140737488355328) :
    Calls Tryz.prog 76 #[.slice (some ⟨w.heap.size, 0, none⟩) 3 3] (w.alloc (.cells #[.slice A1 l1.length c1, .slice A2 l2.length c2, .slice A3 l3.length c3] 69))
      fun e w' => (∃ A c, e = .returned (.slice A (l1 ++ l2 ++ l3).length c) ∧ (∀ ad, A = some ad → ∃ g, ad = ⟨g, 0, none⟩) ∧ (l1 ++ l2 ++ l3).length ≤ c ∧ recK.C w' A (l1 ++ l2 ++ l3).length (l1 ++ l2 ++ l3)) ∧ Below (w.alloc (.cells #[.slice A1 l1.length c1, .slice A2 l2.length c2, .slice A3 l3.length c3] 69)).heap.size (w.alloc (.cells #[.slice A1 l1.length c1, .slice A2 l2.length c2, .slice A3 l3.length c3] 69)) w' := by
  obtain ⟨r1, a1, b1, e1⟩ := C_raw h1
  obtain ⟨r2, a2, b2, e2⟩ := C_raw h2
  obtain ⟨r3, a3, b3, e3⟩ := C_raw h3
  have hrows := lit_rowsD (d := Kd.raw 23) (t := 37) (w := w) (T := 69) [.slice A1 l1.length c1, .slice A2 l2.length c2, .slice A3 l3.length c3] [r1, r2, r3] rfl (by show 3 ≤ 9223372036854775807; decide) (fun j hj => by
    have hj' : j < 3 := hj
    match j, hj' with
    | 0, _ => exact ⟨A1, c1, by rw [← b1]; rfl, by rw [← b1] at k1; exact k1, by rw [← b1] at a1; exact a1⟩
    | 1, _ => exact ⟨A2, c2, by rw [← b2]; rfl, by rw [← b2] at k2; exact k2, by rw [← b2] at a2; exact a2⟩
    | 2, _ => exact ⟨A3, c3, by rw [← b3]; rfl, by rw [← b3] at k3; exact k3, by rw [← b3] at a3; exact a3⟩)
  have hfl : [r1, r2, r3].flatten = r1 ++ r2 ++ r3 := by simp
  have hlen : (r1 ++ r2 ++ r3).length = (l1 ++ l2 ++ l3).length := by simp only [List.length_append, b1, b2, b3]
  refine (concatR_calls _ 3 [r1, r2, r3] _ hrows (by rw [hfl, hlen]; simp only [List.length_append]; exact hl)).mono ?_
  rintro e w' ⟨v, rfl, hm, hb⟩
  rw [hfl] at hm
  obtain ⟨A, c, rfl, hc, hC⟩ := slice_open ((Kd.slice 37 (Kd.raw 23)).K_of_M hm)
  rw [hlen] at hc hC ⊢
  have hB : Below w.heap.size w w' := ((Below.refl w.heap.size w).alloc (Nat.le_refl _) _).trans (hb.mono (by simp))
  refine ⟨⟨A, c, rfl, fun ad had => by subst had; exact Kd.R_head (slice_MR hm), hc, C_of_raw (d := recK) hC hlen (fun j p hj => ?_)⟩, hb⟩
  rw [List.append_assoc] at hj ⊢
  by_cases g1 : j < l1.length
  · rw [List.getElem?_append_left g1] at hj
    obtain ⟨row, hr, hK⟩ := e1 j p hj
    exact ⟨row, by rw [List.getElem?_append_left (by omega)]; exact hr, recK.K_below hB hK⟩
  · rw [List.getElem?_append_right (by omega)] at hj
    by_cases g2 : j - l1.length < l2.length
    · rw [List.getElem?_append_left g2] at hj
      obtain ⟨row, hr, hK⟩ := e2 _ p hj
      exact ⟨row, by rw [List.getElem?_append_right (by omega), b1, List.getElem?_append_left (by omega)]; exact hr, recK.K_below hB hK⟩
    · rw [List.getElem?_append_right (by omega)] at hj
      obtain ⟨row, hr, hK⟩ := e3 _ p hj
      exact ⟨row, by rw [List.getElem?_append_right (by omega), b1, List.getElem?_append_right (by omega), b2]; exact hr, recK.K_below hB hK⟩
end Go.Proofs.YtclgffblfjhciaaGreatDoor
