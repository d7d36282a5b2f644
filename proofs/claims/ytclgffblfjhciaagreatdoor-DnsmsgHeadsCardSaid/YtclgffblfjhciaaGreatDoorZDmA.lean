/-
  Package dnsmsg: questions, records: so many from a place on, by their contracts.
-/
import Derived.Test.YtclgffblfjhciaaGreatDoorGs
namespace Go.Proofs.YtclgffblfjhciaaGreatDoor
open Go.RowKit Go.Proofs.YtclgffblfjhciaaGreatDoorW.PrintWords
set_option linter.unusedVariables false
set_option linter.unusedSimpArgs false
set_option maxRecDepth 100000
set_option maxHeartbeats 2000000

/-- So many questions from a place on, behind some. -/
def qsR (xs : List Int) : Nat → Int → List Qu → List Qu × Int × Er
  | 0, a, l => (l, a, .none)
  | n + 1, a, l => if (quR xs a).2.2 ≠ .none then ([], 0, (quR xs a).2.2) else qsR xs n (quR xs a).2.1 (l ++ [(quR xs a).1])
/-- So many records. -/
def rsR (xs : List Int) : Nat → Int → List Rec → List Rec × Int × Er
  | 0, a, l => (l, a, .none)
  | n + 1, a, l => if (recR xs a).2.2 ≠ .none then ([], 0, (recR xs a).2.2) else rsR xs n (recR xs a).2.1 (l ++ [(recR xs a).1])
theorem fillR_end (xs : List Int) (a : Int) (r : Rec) : (fillR xs a r).2.2 = .none → 0 ≤ a → a ≤ xs.length → Byts xs → 0 ≤ (fillR xs a r).2.1 ∧ (fillR xs a r).2.1 ≤ xs.length := by
  intro h h0 h1 hx
  unfold fillR at h ⊢
  split at h
  · rename_i g; exact absurd h g
  · rename_i g1
    have g1' : partE xs.length a 2 = .none := by simpa using g1
    rw [if_neg g1]
    split at h
    · cases h
    · rename_i g2
      have g2' : partE xs.length (a + 2) (numV xs a 2) = .none := by simpa using g2
      have p1 := partE_none g1'
      have p2 := partE_none g2'
      have hn := num_range xs a 2 hx (.inl rfl)
      rw [if_neg g2]
      have hle : 0 ≤ a + 2 + numV xs a 2 ∧ a + 2 + numV xs a 2 ≤ xs.length := by
        refine ⟨by omega, ?_⟩
        by_cases hz : 0 < numV xs a 2
        · have := p2.2.2 hz; omega
        · have := p1.2.2 (by decide); omega
      split at h
      · rename_i g3
        rw [if_pos g3]
        split at h
        · rename_i g4; exact absurd h g4
        · rename_i g4
          rw [if_neg g4]
          split at h
          · cases h
          · rename_i g5
            rw [if_neg g5]
            exact hle
      · rename_i g3
        rw [if_neg g3]
        split at h
        · rename_i g4
          rw [if_pos g4]
          exact hle
        · rename_i g4
          rw [if_neg g4]
          split at h
          · cases h
          · rename_i g5
            rw [if_neg g5]
            exact hle
theorem recR_end (xs : List Int) (a : Int) (hx : Byts xs) : 0 ≤ (recR xs a).2.1 ∧ (recR xs a).2.1 ≤ xs.length := by
  have hq := quR_end xs a hx
  unfold recR
  split
  · exact ⟨Int.le_refl _, by simp⟩
  · split
    · exact ⟨Int.le_refl _, by simp⟩
    · rename_i g2
      have g2' : partE xs.length (quR xs a).2.1 4 = .none := by simpa using g2
      have p2 := partE_none g2'
      have p3 := p2.2.2 (by decide)
      dsimp only
      split
      · exact ⟨Int.le_refl _, by simp⟩
      · rename_i g3
        have g3' : (fillR xs ((quR xs a).2.1 + 4) { Rec.zero with name := (quR xs a).1.name, typ := (quR xs a).1.typ, cls := (quR xs a).1.cls, ttl := numV xs (quR xs a).2.1 4 }).2.2 = .none := by simpa using g3
        exact fillR_end xs _ _ g3' (by omega) (by omega) hx

theorem R_own_lt {α : Type} {d : Kd α} {e : Nat} {w : World} {base : Nat} {ok : Nat → Prop} {v : Value} {xs : List α} (h : d.R e w base ok v xs) (k : Nat) (hk : v.ownBlock = some k) : k < w.heap.size := by
  obtain ⟨-, inner, hown, -⟩ := h
  exact own_lt hown k hk
section
variable {ops : Array Oper} {rest : List Oper} {o : Oper} {a : Act} {Q : Exit → Act → World → Prop} {w0 W : World} {base : Nat} {v : Value} {s x : Operand}
/-- One question behind some. -/
theorem app_qu (hgd : o.guard = none) (ho : o.op = .call { callee := .builtin .append, args := #[s, x], argTypes := #[68, 68] })
    (xs : List Qu) (p : Qu) (hs : a.eval s = v) (hx : a.eval x = .slice (some ⟨W.heap.size, 0, none⟩) 1 1) (HO : quK.R 54 W base (fun _ => True) v xs) (HB : Below base w0 W) (hbase : base ≤ W.heap.size) (hl : (xs.length + 1) * 32 ≤ 140737488355328)
    (h : ∀ v1 w1, Kp (quK.R 54 w1 base (fun _ => True) v1 (xs ++ [p])) → Kp (Below base w0 w1) → Kp (base ≤ w1.heap.size) → wpList Tryz.prog ops Q rest (a.put o.dst v1) w1) :
    wpList Tryz.prog ops Q (o :: rest) a (W.alloc (.cells #[.string (mkB p.name), .int .i64 p.typ, .int .i64 p.cls] 54)) :=
  Kd.R_append (w0 := w0) quK base hgd s x 68 54 (.agg #[.string ⟨#[]⟩, .int .i64 0, .int .i64 0]) 32 ho Tryz.underlying68 (by kernel_rfl) rfl (by decide) (by decide) v xs p [.string (mkB p.name), .int .i64 p.typ, .int .i64 p.cls] (fun _ => True) (fun _ => False) hs hx (quK_M p) (fun _ h => h.elim) (fun _ _ => trivial) HO HB hbase hl
    (fun v1 w1 h1 h2 h3 _ => h v1 w1 ⟨h1⟩ ⟨h2⟩ ⟨Nat.le_trans hbase h3.size⟩)
/-- One record, its data younger than the row. -/
theorem app_rec (hgd : o.guard = none) (ho : o.op = .call { callee := .builtin .append, args := #[s, x], argTypes := #[69, 69] })
    (xs : List Rec) (p : Rec) (dv : Value) (b1 : Nat) (hs : a.eval s = v) (hx : a.eval x = .slice (some ⟨W.heap.size, 0, none⟩) 1 1) (hp : (Kd.int .u8).R 5 W b1 (fun _ => True) dv p.data) (hb1 : base ≤ b1) (hv : ∀ k, v.ownBlock = some k → k < b1)
    (HO : recK.R 37 W base (fun _ => True) v xs) (HB : Below base w0 W) (hbase : base ≤ W.heap.size) (hl : (xs.length + 1) * 96 ≤ 140737488355328)
    (h : ∀ v1 w1, Kp (recK.R 37 w1 base (fun _ => True) v1 (xs ++ [p])) → Kp (Below base w0 w1) → Kp (base ≤ w1.heap.size) → wpList Tryz.prog ops Q rest (a.put o.dst v1) w1) :
    wpList Tryz.prog ops Q (o :: rest) a (W.alloc (.cells (recA p dv) 37)) :=
  Kd.R_append (w0 := w0) recK base hgd s x 69 37 (.agg #[.string ⟨#[]⟩, .int .i64 0, .int .i64 0, .int .u32 0, .bool false, .int .u8 0, .int .u8 0, .int .u8 0, .int .u8 0, .int .u8 0, .int .u8 0, .int .u8 0, .int .u8 0, .int .u8 0, .int .u8 0, .int .u8 0, .int .u8 0, .int .u8 0, .int .u8 0, .int .u8 0, .int .u8 0, .string ⟨#[]⟩, .slice none 0 0]) 96 ho Tryz.underlying69 (by kernel_rfl) rfl (by decide) (by decide) v xs p (recA p dv).toList (fun _ => True) (fun k => b1 ≤ k) hs hx (recK_M (Kd.R_lower (Kd.R_mono (Kd.R_bound hp) (fun k hk => hk.2.1)) hb1)) (fun k hk => ⟨trivial, fun e => by have := hv k e.symm; omega⟩) (fun _ _ => trivial) HO HB hbase hl
    (fun v1 w1 h1 h2 h3 _ => h v1 w1 ⟨h1⟩ ⟨h2⟩ ⟨Nat.le_trans hbase h3.size⟩)
end

theorem questions_calls (A : Option Addr) (c : Nat) (xs : List Int) (a : Int) (N : Nat) (w : World) (ql : List Qu) (qa : Int) (qe : Er) (h : (Kd.int .u8).C w A xs.length xs) (hx8 : Byts xs) (hc : xs.length ≤ c) (hcm : c ≤ 9223372036854775807) (hE : Env w) (hl : xs.length ≤ 140737488355328)
    (ha0 : 0 ≤ a) (ha : a ≤ 9223372036854775807) (hN : N ≤ 1000000) (hr : qsR xs N a [] = (ql, qa, qe)) :
    Calls Tryz.prog 109 #[.slice A xs.length c, .int .i64 a, .int .i64 N] w (Gives3 (Kd.slice 54 quK) (Kd.int .i64) erK ql qa qe w) := by
  have HS := Kp.mk (St.start hE)
  have HC := Kp.mk h
  have HX := Kp.mk hx8
  have HR := Kp.mk hr
  clear h hx8 hE hr
  go_enter Tryz.func109, Tryz.ntmps109
  go_wp2_with (fail)
  go_loopw [1, 9, 14] (fun at_ v i wr => ∃ (k : Nat) (a1 : Int) (l : List Qu), k ≤ N ∧ i = .int .i64 k ∧ at_ = .int .i64 a1 ∧ Kp (St w wr) ∧ Kp (quK.R 54 wr w.heap.size (fun _ => True) v l) ∧ Kp (qsR xs (N - k) a1 l = (ql, qa, qe)) ∧ Kp (l.length = k) ∧ 0 ≤ a1 ∧ a1 ≤ 9223372036854775807) (fun _ _ i _ => N - (intOf i).toNat)
  case atStart => exact ⟨0, a, [], Nat.zero_le _, rfl, rfl, HS, ⟨Kd.R_nil _ _ _ _ _⟩, HR, ⟨rfl⟩, ha0, ha⟩
  case round =>
    obtain ⟨k, a1, l, hk, rfl, rfl, HSr, HRl, HQ, HLk, ha1, ha2⟩ := hrel
    by_cases hlt : k < N
    · have hq := HQ.out
      obtain ⟨m, hm⟩ : ∃ m, N - k = m + 1 := ⟨N - k - 1, by omega⟩
      rw [hm, qsR] at hq
      obtain ⟨⟨qn, qt, qc⟩, en, er, hqr⟩ : ∃ q en er, quR xs a1 = (q, en, er) := ⟨_, _, _, rfl⟩
      have hen := quR_end xs a1 HX.out
      rw [hqr] at hq hen
      dsimp only at hq hen
      have HQR := Kp.mk hqr
      have HM := Kp.mk hm
      have HQ1 := Kp.mk hq
      clear hqr hm hq HQ
      go_wp2_with (fail)
      refine (quRead_calls A c xs a1 _ ⟨qn, qt, qc⟩ en er (Kd.C_below HC.out HSr.out.below) HX.out hc hcm HSr.out.env hl ha2 HQR.out).mono ?_
      rintro e2 w2 ⟨v2, rfl, hM2, hB2⟩
      have HS2 := Kp.mk (HSr.out.step hB2)
      have HR2 := Kp.mk (Kd.R_below HRl.out hB2)
      have HM2 := Kp.mk hM2
      have HZ2 := Kp.mk (HS2.out.below.alloc HS2.out.size (.cells #[.string ⟨#[]⟩, .int .i64 0, .int .i64 0] 54))
      clear hM2 hB2
      go_wp2_with (with_reducible refine st_blk (w0 := w) (base := w.heap.size) rfl 54 (.tmp 10) (.tmp 20) rfl rfl w2.heap.size _ rfl rfl ⟨heap_new _ _⟩ (by kernel_rfl) (by kernel_rfl) (by kernel_rfl) HZ2 HS2.out.size ?_)
      intro w3 Hg3 HO3 HB3 hs3
      have hB23 := stored_new HS2.out.below HB3.out hs3 HO3.out
      have HS3 := Kp.mk (HS2.out.step hB23)
      have HR3 := Kp.mk (Kd.R_below HR2.out hB23)
      have HM3 := Kp.mk (erK.M_below HM2.out hB23)
      clear hs3 hB23 HO3 HB3 HZ2 HR2 HM2
      by_cases g : er = .none
      · subst g
        obtain rfl := er_open_none (erK.K_of_M HM3.out)
        have hq := HQ1.out
        rw [if_neg (by simp)] at hq
        have HQ2 := Kp.mk hq
        clear hq HQ1
        have d0 := blk_cell Hg3.out 0
        have d1 := blk_cell Hg3.out 1
        have d2 := blk_cell Hg3.out 2
        go_wp2_with (at_builtin; (with_reducible refine gate_builtin (b := .append) (xs := #[.tmp 26, .tmp 28]) rfl ?_); go_must (refine app_qu (w0 := w) (s := .tmp 26) (x := .tmp 28) (v := u9) (base := w.heap.size) rfl rfl l ⟨qn, qt, qc⟩ rfl rfl HR3.out HS3.out.below HS3.out.size (by have := HLk.out; omega) ?_))
        intro v4 w4 HR4 HB4 hs4
        go_wp2
        exact ⟨⟨k + 1, en, l ++ [⟨qn, qt, qc⟩], by omega, by go_num, rfl, ⟨⟨HB4.out, HS.out.env.below HB4.out⟩⟩, HR4, ⟨by rw [show N - (k + 1) = m by have := HM.out; omega]; exact HQ2.out⟩, ⟨by rw [List.length_append, HLk.out]; rfl⟩, hen.1, by omega⟩, by simp [intOf]; omega⟩
      · obtain ⟨T, u, rfl⟩ := er_some (erK.K_of_M HM3.out) g
        have hq := HQ1.out
        rw [if_pos g] at hq
        obtain ⟨rfl, rfl, rfl⟩ : ([] : List Qu) = ql ∧ (0 : Int) = qa ∧ er = qe := by simpa using hq
        clear hq HQ1
        go_wp2
        go_ret3
        exact ⟨_, _, _, rfl, ⟨_, rfl, Kd.R_nil _ _ _ _ _⟩, rfl, erK.M_lower HSr.out.size HM3.out, HS3.out.below⟩
    · obtain rfl : k = N := by omega
      have hq := HQ.out
      rw [Nat.sub_self, qsR] at hq
      obtain ⟨rfl, rfl, rfl⟩ : l = ql ∧ a1 = qa ∧ Er.none = qe := by simpa using hq
      clear hq HQ hlt
      go_wp2
      go_ret3
      exact ⟨_, _, _, rfl, ⟨_, rfl, HRl.out⟩, rfl, er_none _ _ _, HSr.out.below⟩
theorem records_calls (A : Option Addr) (c : Nat) (xs : List Int) (a : Int) (N : Nat) (w : World) (rl : List Rec) (ra : Int) (re : Er) (h : (Kd.int .u8).C w A xs.length xs) (hx8 : Byts xs) (hc : xs.length ≤ c) (hcm : c ≤ 9223372036854775807) (hE : Env w) (hl : xs.length ≤ 140737488355328)
    (ha0 : 0 ≤ a) (ha : a ≤ 9223372036854775807) (hN : N ≤ 1000000) (hr : rsR xs N a [] = (rl, ra, re)) :
    Calls Tryz.prog 110 #[.slice A xs.length c, .int .i64 a, .int .i64 N] w (Gives3 (Kd.slice 37 recK) (Kd.int .i64) erK rl ra re w) := by
  have HS := Kp.mk (St.start hE)
  have HC := Kp.mk h
  have HX := Kp.mk hx8
  have HR := Kp.mk hr
  clear h hx8 hE hr
  go_enter Tryz.func110, Tryz.ntmps110
  go_wp2_with (fail)
  go_loopw [1, 9, 14] (fun at_ v i wr => ∃ (k : Nat) (a1 : Int) (l : List Rec), k ≤ N ∧ i = .int .i64 k ∧ at_ = .int .i64 a1 ∧ Kp (St w wr) ∧ Kp (recK.R 37 wr w.heap.size (fun _ => True) v l) ∧ Kp (rsR xs (N - k) a1 l = (rl, ra, re)) ∧ Kp (l.length = k) ∧ 0 ≤ a1 ∧ a1 ≤ 9223372036854775807) (fun _ _ i _ => N - (intOf i).toNat)
  case atStart => exact ⟨0, a, [], Nat.zero_le _, rfl, rfl, HS, ⟨Kd.R_nil _ _ _ _ _⟩, HR, ⟨rfl⟩, ha0, ha⟩
  case round =>
    obtain ⟨k, a1, l, hk, rfl, rfl, HSr, HRl, HQ, HLk, ha1, ha2⟩ := hrel
    by_cases hlt : k < N
    · have hq := HQ.out
      obtain ⟨m, hm⟩ : ∃ m, N - k = m + 1 := ⟨N - k - 1, by omega⟩
      rw [hm, rsR] at hq
      obtain ⟨⟨rn, rt, rc, rtl, ⟨v6, b⟩, rtg, rd⟩, en, er, hqr⟩ : ∃ q en er, recR xs a1 = (q, en, er) := ⟨_, _, _, rfl⟩
      have hen := recR_end xs a1 HX.out
      rw [hqr] at hq hen
      dsimp only at hq hen
      have hen2 : en ≤ 9223372036854775807 := by omega
      have hk1 : k + 1 ≤ N := by omega
      have HKM : Kp (N - (k + 1) = m ∧ N - (k + 1) < N - k) := ⟨by omega⟩
      have HQR := Kp.mk hqr
      have HM := Kp.mk hm
      have HQ1 := Kp.mk hq
      clear hqr hm hq HQ
      go_wp2_with (fail)
      refine (recRead_calls A c xs a1 _ ⟨rn, rt, rc, rtl, ⟨v6, b⟩, rtg, rd⟩ en er (Kd.C_below HC.out HSr.out.below) HX.out hc hcm HSr.out.env hl ha2 HQR.out).mono ?_
      rintro e2 w2 ⟨dv, v2, rfl, hR2, hM2, hB2⟩
      obtain ⟨A2, c2, rfl⟩ := Kd.R_slice hR2
      have HS2 := Kp.mk (HSr.out.step hB2)
      have HD2 := Kp.mk hR2
      have HR2 := Kp.mk (Kd.R_below HRl.out hB2)
      have HOL := Kp.mk (fun k hk => R_own_lt HRl.out k hk)
      have HLL : Kp ((l.length + 1) * 96 ≤ 140737488355328) := ⟨by have := HLk.out; omega⟩
      have HM2 := Kp.mk hM2
      have HZ2 := Kp.mk (HS2.out.below.alloc HS2.out.size (.cells #[.string ⟨#[]⟩, .int .i64 0, .int .i64 0, .int .u32 0, .bool false, .int .u8 0, .int .u8 0, .int .u8 0, .int .u8 0, .int .u8 0, .int .u8 0, .int .u8 0, .int .u8 0, .int .u8 0, .int .u8 0, .int .u8 0, .int .u8 0, .int .u8 0, .int .u8 0, .int .u8 0, .int .u8 0, .string ⟨#[]⟩, .slice none 0 0] 37))
      clear hM2 hB2 hR2
      go_wp2_with (with_reducible refine st_blk (w0 := w) (base := w.heap.size) rfl 37 (.tmp 10) (.tmp 20) rfl rfl w2.heap.size _ rfl rfl ⟨heap_new _ _⟩ (by kernel_rfl) (by kernel_rfl) (by kernel_rfl) HZ2 HS2.out.size ?_)
      intro w3 Hg3 HO3 HB3 hs3
      have hB23 := stored_new HS2.out.below HB3.out hs3 HO3.out
      have HS3 := Kp.mk (HS2.out.step hB23)
      have HR3 := Kp.mk (Kd.R_below HR2.out hB23)
      have HD3 := Kp.mk (Kd.R_below HD2.out hB23)
      have HM3 := Kp.mk (erK.M_below HM2.out hB23)
      clear hs3 hB23 HO3 HB3 HZ2 HR2 HD2 HM2
      by_cases g : er = .none
      · subst g
        obtain rfl := er_open_none (erK.K_of_M HM3.out)
        have hq := HQ1.out
        rw [if_neg (by simp)] at hq
        have HQ2 := Kp.mk hq
        clear hq HQ1
        go_wp2_with (first
          | (with_reducible refine ld_blk rfl 37 (.tmp 10) rfl w2.heap.size rfl Hg3 Tryz.underlying37 rfl (by kernel_rfl) ?_)
          | (at_builtin; (with_reducible refine gate_builtin (b := .append) (xs := #[.tmp 26, .tmp 28]) rfl ?_); go_must (refine app_rec (w0 := w) (W := w3) (s := .tmp 26) (x := .tmp 28) (v := u9) (base := w.heap.size) rfl rfl l ⟨rn, rt, rc, rtl, ⟨v6, b⟩, rtg, rd⟩ (.slice A2 rd.length c2) wr.heap.size rfl rfl HD3.out HSr.out.size HOL.out HR3.out HS3.out.below HS3.out.size HLL.out ?_)))
        intro v4 w4 HR4 HB4 hs4
        go_wp2
        obtain ⟨l4, hl4⟩ : ∃ l4, l ++ [(⟨rn, rt, rc, rtl, ⟨v6, b⟩, rtg, rd⟩ : Rec)] = l4 := ⟨_, rfl⟩
        have HL4 : Kp (l4.length = k + 1) := ⟨by rw [← hl4, List.length_append, HLk.out]; rfl⟩
        have HQ4 : Kp (rsR xs (N - (k + 1)) en l4 = (rl, ra, re)) := ⟨by rw [HKM.out.1, ← hl4]; exact HQ2.out⟩
        rw [hl4] at HR4
        clear hl4
        refine ⟨⟨k + 1, en, l4, hk1, by go_num, rfl, ⟨⟨HB4.out, HS.out.env.below HB4.out⟩⟩, HR4, HQ4, HL4, hen.1, hen2⟩, ?_⟩
        have hi1 : (intOf (Value.int .i64 ((k : Int) + 1))).toNat = k + 1 := by simp [intOf] <;> omega
        have hi2 : (intOf (Value.int .i64 (k : Int))).toNat = k := by simp [intOf]
        rw [hi1, hi2]
        exact HKM.out.2
      · obtain ⟨T, u, rfl⟩ := er_some (erK.K_of_M HM3.out) g
        have hq := HQ1.out
        rw [if_pos g] at hq
        obtain ⟨rfl, rfl, rfl⟩ : ([] : List Rec) = rl ∧ (0 : Int) = ra ∧ er = re := by simpa using hq
        clear hq HQ1
        go_wp2
        go_ret3
        exact ⟨_, _, _, rfl, ⟨_, rfl, Kd.R_nil _ _ _ _ _⟩, rfl, erK.M_lower HSr.out.size HM3.out, HS3.out.below⟩
    · obtain rfl : k = N := by omega
      have hq := HQ.out
      rw [Nat.sub_self, rsR] at hq
      obtain ⟨rfl, rfl, rfl⟩ : l = rl ∧ a1 = ra ∧ Er.none = re := by simpa using hq
      clear hq HQ hlt
      go_wp2
      go_ret3
      exact ⟨_, _, _, rfl, ⟨_, rfl, HRl.out⟩, rfl, er_none _ _ _, HSr.out.below⟩
end Go.Proofs.YtclgffblfjhciaaGreatDoor
