/-
  slices.Grow (at nil), slices.Concat, at rows of numbers (int), by their contracts.
-/
import Derived.Test.YtimaliamidgflaaDoorApp
import Derived.Test.YtimaliamidgflaaDoorCx
import Derived.Lib.AppendZerosOnto
namespace Go.Proofs.YtimaliamidgflaaDoor
open Go.RowKit Go.Proofs.YtimaliamidgflaaDoorW.PrintWords
set_option linter.unusedVariables false
set_option linter.unusedSimpArgs false
set_option maxRecDepth 100000
set_option maxHeartbeats 1000000

theorem app_runI {ops : Array Oper} {rest : List Oper} {o : Oper} {a : Act} {Q : Exit → Act → World → Prop} {W W' : World} {s x : Operand} {t u : TypeId} {v1 v2 v : Value} (hgd : o.guard = none) (ho : o.op = .call { callee := .builtin .append, args := #[s, x], argTypes := #[t, u] })
    (hs : a.eval s = v1) (hx : a.eval x = v2) (hrun : (Builtin.append_ #[t, u] o.type #[v1, v2]).run Tryd.prog W = .ok v W') (h : wpList Tryd.prog ops Q rest (a.put o.dst v) W') : wpList Tryd.prog ops Q (o :: rest) a W := by
  refine wpList_plain hgd fun K hK => ?_
  unfold Oper.wp execOp
  simp only [ho, resolve, invoke, builtin, Sem.run_bind, Sem.run_pure, Result.andThen_ok, List.map_toArray, List.map_cons, List.map_nil, hs, hx, hrun]
  exact hK _ _ h
theorem growI_nil (n : Nat) (w : World) (hn : n * 8 ≤ 140737488355328) :
    Calls Tryd.prog 56 #[.slice none 0 0, .int .i64 n] w fun e w' => (∃ v, e = .returned v ∧ (Kd.int .i64).R 3 w' w.heap.size (fun _ => True) v []) ∧ Below w.heap.size w w' := by
  by_cases h0 : n = 0
  · subst h0
    go_enter Tryd.func56, Tryd.ntmps56
    go_wp2
    go_ret
    exact ⟨⟨_, rfl, Kd.R_nil _ _ _ _ _⟩, Below.refl _ _⟩
  · obtain ⟨i0, hi0, hzz⟩ := Option.map_eq_some_iff.1 (show (Tryd.prog.info? 3).map (fun i => (i.zero, i.size, i.bytes)) = some (some (.int .i64 0), 1, 8) by kernel_rfl)
    simp only [Prod.mk.injEq] at hzz
    obtain ⟨hz0, hz1, hz2⟩ := hzz
    have hrz := fun ty => Lib.run_append_grow_zeros (P := Tryd.prog) w 37 3 ty 3 i0 (.int .i64 0) .i64 .i64 Tryd.underlying37 Tryd.underlying3 hi0 hz0 none 0 0 [] (run_firstCells_none w.drew i0.size 0 0 0) n (by omega) (by rw [hz1]; decide) (by omega) (by omega) (by rw [hz2]; omega) (growslice_fits (by omega) (by rw [hz2]; omega))
    simp only [Nat.zero_add] at hrz
    have hGn : n ≤ grownCap w n 0 3 := grownCap_ge w _ _ _
    have hGm := grownCap_le_maxLen w n 0 3 (by unfold maxLen; omega)
    obtain ⟨G, hG⟩ : ∃ G, grownCap w n 0 3 = G := ⟨_, rfl⟩
    rw [hG] at hrz hGn hGm
    have HGM := Kp.mk hGm
    obtain ⟨cur, hcur⟩ : ∃ cur, ([] : List Value).toArray ++ Builtin.zeroCells (Value.int .i64 0).cells n ++ Builtin.zeroCells (Value.int .i64 0).cells (G - n) = cur := ⟨_, rfl⟩
    have hcs : cur.size = G * 1 := by
      rw [← hcur]
      simp [Builtin.zeroCells, Value.cells]
      omega
    rw [hcur] at hrz
    have HCS := Kp.mk hcs
    have hG9 : G ≤ 9223372036854775807 := by simpa [maxLen] using hGm
    have b0 : decide (0 < (n : Int)) = true := by simp; omega
    have b1 : decide ((n : Int) < 0) = false := by simp
    clear hG hcur hi0 hz0 hz1 hz2 hGm hcs
    go_enter Tryd.func56, Tryd.ntmps56
    have HRZ := Kp.mk hrz
    clear hrz
    go_wp2_with (at_builtin; with_reducible refine gate_builtin (b := .append) (xs := #[.tmp 20, .tmp 21]) rfl ?_; go_must (refine app_runI rfl rfl rfl rfl (HRZ.out _) ?_))
    go_ret
    refine ⟨⟨_, rfl, ?_⟩, (below_drew (Below.refl _ _)).alloc (Nat.le_refl _) _⟩
    refine Kd.R_of_own (xs := []) ?_ (fun _ _ => trivial)
    exact World.ownsRow_made w.drew cur G (Nat.le_refl _) HGM.out HCS.out
theorem at_rowI {w : World} {A : Option Addr} {n : Nat} {xss : List (List Int)} (h : (Kd.slice 3 (Kd.int .i64)).C w A n xss) (i : Nat) (hi : i < n) : ∃ ad A' c', A = some ad ∧ w.cell? (ad.add i) = some (.slice A' (xss.getD i []).length c') ∧ (xss.getD i []).length ≤ c' ∧ (Kd.int .i64).C w A' (xss.getD i []).length (xss.getD i []) := by
  obtain ⟨ad, c, e, -, hK, hc⟩ := Kd.C_get h [] (i : Int) (by omega) (by omega)
  rw [Int.toNat_natCast] at hK hc
  obtain ⟨A', c', rfl, h1, h2⟩ := hK
  refine ⟨ad, A', c', e, ?_, h1, h2⟩
  have h3 := hc 0 _ rfl
  have e1 : i * (Kd.slice 3 (Kd.int .i64)).sz + 0 = i := by show i * 1 + 0 = i; omega
  rwa [e1] at h3
theorem concatI_calls (A : Option Addr) (c : Nat) (xss : List (List Int)) (w : World) (h : (Kd.slice 3 (Kd.int .i64)).C w A xss.length xss) (hl : xss.flatten.length * 8 ≤ 140737488355328) :
    Calls Tryd.prog 40 #[.slice A xss.length c] w (Gives (Kd.slice 3 (Kd.int .i64)) xss.flatten w) := by
  have hm := (C_len h).2
  have HC := Kp.mk h
  have HL := Kp.mk hl
  clear h
  go_enter Tryd.func40, Tryd.ntmps40
  go_wp2_with (fail)
  have hfl : ∀ k, ((xss.take k).flatten).length ≤ xss.flatten.length := fun k => by
    conv => rhs; rw [← List.take_append_drop k xss, List.flatten_append, List.length_append]
    omega
  obtain ⟨F, hF⟩ : ∃ F : Nat → Nat, ∀ k, ((xss.take k).flatten).length = F k := ⟨_, fun _ => rfl⟩
  have hFz : F xss.length = xss.flatten.length := by rw [← hF, List.take_length]
  have hF0 : F 0 = 0 := by rw [← hF]; rfl
  have HFL := Kp.mk (fun k => (hF k) ▸ hfl k)
  have HF := Kp.mk hF
  have HFZ := Kp.mk hFz
  have HF0 := Kp.mk hF0
  clear hfl hF hFz hF0
  go_loop [3, 11] (fun z i => ∃ k : Nat, k ≤ xss.length ∧ i = .int .i64 k ∧ z = .int .i64 (F k)) (fun _ i => xss.length - (intOf i).toNat)
  case atStart => exact ⟨0, Nat.zero_le _, rfl, by rw [HF0.out]; rfl⟩
  case round =>
    obtain ⟨k, hk, rfl, rfl⟩ := hrel
    by_cases hlt : k < xss.length
    · obtain ⟨ad, A', c', rfl, hcell, -, -⟩ := at_rowI HC.out k hlt
      have hts := take_snoc xss [] k hlt
      obtain ⟨x, hx⟩ : ∃ x, xss.getD k [] = x := ⟨_, rfl⟩
      rw [hx] at hcell hts
      have hsn : F (k + 1) = F k + x.length := by
        rw [← HF.out, ← HF.out, hts, List.flatten_append, List.length_append]
        simp
      have hle : (F k + x.length) * 8 ≤ 140737488355328 := by
        have h1 := HFL.out (k + 1)
        have h2 := HL.out
        rw [hsn] at h1
        omega
      have HSN := Kp.mk hsn
      clear hx hts hsn
      go_wp2
      exact ⟨⟨k + 1, by omega, by go_num, by rw [HSN.out]; go_num⟩, by simp [intOf]; omega⟩
    · obtain rfl : k = xss.length := by omega
      have ht : xss.take xss.length = xss := List.take_length
      have hfx : F xss.length * 8 ≤ 140737488355328 := by rw [HFZ.out]; exact HL.out
      clear hlt
      go_wp2_with (fail)
      refine (growI_nil _ _ (by omega)).mono ?_
      rintro e w1 ⟨⟨v, rfl, hR⟩, hb⟩
      have HR := Kp.mk hR
      have HB := Kp.mk hb
      clear hR hb
      go_wp2_with (fail)
      go_loopw [6, 27] (fun v i wr => ∃ k : Nat, k ≤ xss.length ∧ i = .int .i64 k ∧ Kp (Below w.heap.size w wr) ∧ Kp ((Kd.int .i64).R 3 wr w.heap.size (fun _ => True) v ((xss.take k).flatten))) (fun _ i _ => xss.length - (intOf i).toNat)
      case atStart => exact ⟨0, Nat.zero_le _, rfl, HB, HR⟩
      case round =>
        obtain ⟨k, hk, rfl, HW, HRk⟩ := hrel
        by_cases hlt : k < xss.length
        · obtain ⟨ad, A', c', rfl, hcell, hc', hC'⟩ := at_rowI (Kd.C_below HC.out HW.out) k hlt
          have hts := take_snoc xss [] k hlt
          obtain ⟨x, hx⟩ : ∃ x, xss.getD k [] = x := ⟨_, rfl⟩
          rw [hx] at hcell hts hc' hC'
          have hsn : (xss.take (k + 1)).flatten = (xss.take k).flatten ++ x := by rw [hts]; simp
          have hle := HFL.out (k + 1)
          rw [← HF.out, hsn, List.length_append] at hle
          have hl := HL.out
          have hlb : (((xss.take k).flatten).length + x.length) * 8 ≤ 140737488355328 := by omega
          clear hle hl
          have HSN := Kp.mk hsn
          have HC' := Kp.mk hC'
          have hsz := HW.out.size
          clear hx hts hsn hC'
          obtain ⟨ys, hy⟩ : ∃ ys, (xss.take k).flatten = ys := ⟨_, rfl⟩
          rw [hy] at hlb HSN HRk
          clear hy
          go_wp2_with (at_builtin; with_reducible refine gate_builtin (b := .append) (xs := #[.tmp 31, .tmp 32]) rfl ?_; go_must (refine app_ints (w0 := w) (s := .tmp 31) (x := .tmp 32) (v := u6) (base := w.heap.size) rfl rfl ys x A' x.length c' rfl rfl HRk.out HC'.out HW.out hsz (by omega) ?_))
          intro v1 wa HR1 HW1 hs1
          go_wp2
          exact ⟨⟨k + 1, by omega, by go_num, HW1, ⟨by rw [HSN.out]; exact HR1.out⟩⟩, by simp [intOf]; omega⟩
        · obtain rfl : k = xss.length := by omega
          have ht : xss.take xss.length = xss := List.take_length
          rw [ht] at HRk
          clear ht hlt
          go_wp2
          go_ret
          exact ⟨_, rfl, ⟨_, rfl, HRk.out⟩, HW.out⟩
end Go.Proofs.YtimaliamidgflaaDoor

