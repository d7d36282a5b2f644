/-
  The document's answers for records: ReadRecord, by its contract.
-/
import Derived.Test.YtlkneoednkhleaaGreatDoorYZRtG
namespace Go.Proofs.YtlkneoednkhleaaGreatDoor
open Go.RowKit Go.Proofs.YtlkneoednkhleaaGreatDoorW.PrintWords Go.Proofs.YtlkneoednkhleaaGreatDoorW.PrintLast Go.Proofs.YtlkneoednkhleaaGreatDoor.P
set_option linter.unusedVariables false
set_option linter.unusedSimpArgs false
set_option maxRecDepth 100000
set_option maxHeartbeats 2000000

theorem results_ctc {P : Program} {fn : Func} {p u p' : Tmp} {ty ty' : TypeId} (h : fn.results = #[.cell p ty, .tmp u, .cell p' ty']) (tmps : Array Value) (w : World) (g g' : Nat) (t t' : TypeId) (cs cs' : Array Value) (fr fr' : Nat × Nat) (d d' : TypeDesc)
    (hp : tmps.getD p undef = .pointer (some ⟨g, 0, none⟩)) (hg : w.heap[g]? = some (.cells cs t fr))
    (hu : P.underlying ty = some d) (hd : (match d with | .struct _ | .array _ _ => true | _ => false) = true) (hi : (P.info? ty).map (·.size) = some cs.size)
    (hp' : tmps.getD p' undef = .pointer (some ⟨g', 0, none⟩)) (hg' : w.heap[g']? = some (.cells cs' t' fr'))
    (hu' : P.underlying ty' = some d') (hd' : (match d' with | .struct _ | .array _ _ => true | _ => false) = true) (hi' : (P.info? ty').map (·.size) = some cs'.size) :
    (results fn tmps).run P w = .ok (.tuple #[.agg cs, tmps.getD u undef, .agg cs']) w := by
  have h1 : tmps[p]?.getD undef = .pointer (some ⟨g, 0, none⟩) := by simpa using hp
  have h2 : tmps[p']?.getD undef = .pointer (some ⟨g', 0, none⟩) := by simpa using hp'
  simp [results, h, h1, h2, asAddr, run_loadVar_row w g t ty cs fr d hg hu hd hi, run_loadVar_row w g' t' ty' cs' fr' d' hg' hu' hd' hi']
/-- A record, where it ends, and an error as the document tells it. -/
def RRPost (r : Rec) (n : Int) (er : Er) (w : World) (e : Ending) (w' : World) : Prop :=
  ∃ dv, e = .returned (.tuple #[.agg (recA r dv), .int .i64 n, failV er]) ∧ (Kd.int .u8).R 5 w' w.heap.size (fun _ => True) dv r.data ∧ Below w.heap.size w w'
theorem fail_gen (er : Er) : ∃ f1 f2 f3, failV er = .agg #[.int .i64 f1, .int .i64 f2, .bool f3] ∧ f1 = er.num := ⟨_, _, _, failV_T er, failT_num er⟩
theorem rread_a (A : Option Addr) (c : Nat) (xs : List Int) (a : Int) (w : World) (h : (Kd.int .u8).C w A xs.length xs) (hc : xs.length ≤ c) (hx : Byts xs) (hl : xs.length ≤ 1000000) (qn : L) (qt qc tn : Int) (er : Er) (hq : quR xs a = (⟨qn, qt, qc⟩, tn, er)) (her : er.num ≠ 0) :
    Calls Tryz.prog 14 #[.slice A xs.length c, .int .i64 a] w (RRPost Rec.zero 0 er w) := by
  obtain ⟨f1, f2, f3, hV, hnz⟩ := fail_gen er
  have bnz : (f1 != 0) = true := by rw [hnz]; simpa using her
  have HV := Kp.mk hV
  clear hV hnz her
  have HQ : Kp (∀ W, (Kd.int .u8).C W A xs.length xs → Calls Tryz.prog 12 #[.slice A xs.length c, .int .i64 a] W fun e w' => e = .returned (.tuple #[.agg #[.string (mkB qn), .int .i64 qt, .int .i64 qc], .int .i64 tn, .agg #[.int .i64 f1, .int .i64 f2, .bool f3]]) ∧ Below W.heap.size W w') := ⟨fun W hW => by have := rqu_calls A c xs a W ⟨qn, qt, qc⟩ tn er hW hc hx hl hq; rw [HV.out] at this; exact this⟩
  clear hq
  have HC := Kp.mk h
  have HX := Kp.mk hx
  have HB1 := Kp.mk ((Below.refl w.heap.size w).alloc (Nat.le_refl _) (.cells #[.string ⟨#[]⟩, .int .i64 0, .int .i64 0, .int .u32 0, .bool false, .int .u8 0, .int .u8 0, .int .u8 0, .int .u8 0, .int .u8 0, .int .u8 0, .int .u8 0, .int .u8 0, .int .u8 0, .int .u8 0, .int .u8 0, .int .u8 0, .int .u8 0, .int .u8 0, .int .u8 0, .int .u8 0, .string ⟨#[]⟩, .slice none 0 0] 28))
  have HS0 := Kp.mk (HB1.out.alloc HB1.out.size (.cells #[.int .i64 0, .int .i64 0, .bool false] 38))
  have e1 : w.heap.size + 1 = (w.alloc (.cells #[.string ⟨#[]⟩, .int .i64 0, .int .i64 0, .int .u32 0, .bool false, .int .u8 0, .int .u8 0, .int .u8 0, .int .u8 0, .int .u8 0, .int .u8 0, .int .u8 0, .int .u8 0, .int .u8 0, .int .u8 0, .int .u8 0, .int .u8 0, .int .u8 0, .int .u8 0, .int .u8 0, .int .u8 0, .string ⟨#[]⟩, .slice none 0 0] 28)).heap.size := by simp
  have g1 := heap_new w (.cells #[.string ⟨#[]⟩, .int .i64 0, .int .i64 0, .int .u32 0, .bool false, .int .u8 0, .int .u8 0, .int .u8 0, .int .u8 0, .int .u8 0, .int .u8 0, .int .u8 0, .int .u8 0, .int .u8 0, .int .u8 0, .int .u8 0, .int .u8 0, .int .u8 0, .int .u8 0, .int .u8 0, .int .u8 0, .string ⟨#[]⟩, .slice none 0 0] 28)
  have g2 := heap_new (w.alloc (.cells #[.string ⟨#[]⟩, .int .i64 0, .int .i64 0, .int .u32 0, .bool false, .int .u8 0, .int .u8 0, .int .u8 0, .int .u8 0, .int .u8 0, .int .u8 0, .int .u8 0, .int .u8 0, .int .u8 0, .int .u8 0, .int .u8 0, .int .u8 0, .int .u8 0, .int .u8 0, .int .u8 0, .int .u8 0, .string ⟨#[]⟩, .slice none 0 0] 28)) (.cells #[.int .i64 0, .int .i64 0, .bool false] 38)
  have k2 := (((Below.refl _ _).alloc (Nat.le_refl _) (.cells #[.int .i64 0, .int .i64 0, .bool false] 38)).block _ (heap_lt g1)).trans g1
  rw [← e1] at g2
  have H4_0 := Kp.mk k2
  have H6_0 := Kp.mk g2
  have HC0 := Kp.mk (Kd.C_below HC.out HS0.out)
  clear g1 g2 k2 e1 HB1 h hx
  go_enter Tryz.func14, Tryz.ntmps14
  go_wp2_with (fail)
  refine t_ (HQ.out _ HC0.out) HS0 ?_
  intro w1 HB1 HS1
  have H4_1 := Kp.mk ((HB1.out.block _ (heap_lt H4_0.out)).trans H4_0.out)
  have H6_1 := Kp.mk ((HB1.out.block _ (heap_lt H6_0.out)).trans H6_0.out)
  have HA1 := Kp.mk ((Below.refl w1.heap.size w1).alloc (Nat.le_refl _) (.cells #[.string ⟨#[]⟩, .int .i64 0, .int .i64 0] 30))
  have HA2 := Kp.mk (HA1.out.alloc HA1.out.size (.cells #[.int .i64 0, .int .i64 0, .bool false] 38))
  have e1 : w1.heap.size + 1 = (w1.alloc (.cells #[.string ⟨#[]⟩, .int .i64 0, .int .i64 0] 30)).heap.size := by simp
  have g1 := heap_new w1 (.cells #[.string ⟨#[]⟩, .int .i64 0, .int .i64 0] 30)
  have g2 := heap_new (w1.alloc (.cells #[.string ⟨#[]⟩, .int .i64 0, .int .i64 0] 30)) (.cells #[.int .i64 0, .int .i64 0, .bool false] 38)
  have k2 := (((Below.refl _ _).alloc (Nat.le_refl _) (.cells #[.int .i64 0, .int .i64 0, .bool false] 38)).block _ (heap_lt g1)).trans g1
  rw [← e1] at g2
  have H7_2 := Kp.mk k2
  have H9_2 := Kp.mk g2
  have HS2 := Kp.mk (below_step HS1.out HA2.out)
  have H4_2 := Kp.mk ((HA2.out.block _ (heap_lt H4_1.out)).trans H4_1.out)
  have H6_2 := Kp.mk ((HA2.out.block _ (heap_lt H6_1.out)).trans H6_1.out)
  have hz1 := heap_lt H6_1.out
  clear g1 g2 k2 e1 HA1 HA2 H4_0 H6_0 H4_1 H6_1
  go_wp2_with (with_reducible refine st_blk (w0 := w) (base := w.heap.size) rfl 30 (.tmp 7) (.tmp 17) rfl rfl w1.heap.size _ rfl rfl H7_2 (by kernel_rfl) (by kernel_rfl) (by kernel_rfl) HS2 (by omega) ?_)
  intro w3 H7_3 HO3 HS3 hs3
  have H9_3 := Kp.mk ((HO3.out _ (by omega)).trans H9_2.out)
  have H4_3 := Kp.mk ((HO3.out _ (by omega)).trans H4_2.out)
  have H6_3 := Kp.mk ((HO3.out _ (by omega)).trans H6_2.out)
  clear H4_2 H6_2 H9_2 H7_2
  go_wp2_with (with_reducible refine st_blk (w0 := w) (base := w.heap.size) rfl 38 (.tmp 9) (.tmp 19) rfl rfl (w1.heap.size + 1) _ rfl rfl H9_3 (by kernel_rfl) (by kernel_rfl) (by kernel_rfl) HS3 (by omega) ?_)
  intro w4 H9_4 HO4 HS4 hs4
  have H7_4 := Kp.mk ((HO4.out _ (by omega)).trans H7_3.out)
  have H4_4 := Kp.mk ((HO4.out _ (by omega)).trans H4_3.out)
  have H6_4 := Kp.mk ((HO4.out _ (by omega)).trans H6_3.out)
  have HC4 := Kp.mk (Kd.C_below HC.out HS4.out)
  clear H4_3 H6_3 H9_3 H7_3 hs3 hs4 HO3 HO4 HS3
  have d9 := blk_cell H9_4.out 0
  go_wp2_with (fail)
  refine start_ (n := 5) (S := fun w' => w'.heap[w1.heap.size + 1]? = some (.cells #[.int .i64 f1, .int .i64 f2, .bool f3] 38 (0, 0))) (ds := []) #[false, false, false, false, false] (by kernel_rfl) rfl rfl (H9_4.out) (fun hHeld => ?_)
  refine take_blk (v := .agg #[.int .i64 f1, .int .i64 f2, .bool f3]) (i := 1) (N := some 24) (a' := ?_) #[false, true, false, false, false] rfl rfl (by kernel_rfl) (fun _ _ _ h => h) (by rfl) 38 (.tmp 9) rfl (w1.heap.size + 1) (by rfl) #[.int .i64 f1, .int .i64 f2, .bool f3] rfl (fun _ h => h) Tryz.underlying38 rfl (by kernel_rfl) hHeld ?_ ?_
  rotate_left
  · simp only [Act.put, List.setIfInBounds_toArray, List.set_cons_zero, List.set_cons_succ]
    rfl
  refine pure_ (i := 0) (N := some 23) (v := ?_) (a' := ?_) #[true, true, false, false, false] rfl rfl (by kernel_rfl) (fun _ _ _ h => h) (Or.inl ⟨by rfl, ?_⟩) ?_ ?_
  rotate_left
  · intro w'
    go_simp
    with_reducible rfl
  rotate_left
  · simp only [Act.put, List.setIfInBounds_toArray, List.set_cons_zero, List.set_cons_succ]
    rfl
  refine one_ (i := 2) (N := none) #[true, true, true, false, false] rfl rfl (by kernel_rfl) (by decide) (fun K hK => ?_)
  refine st_step (w0 := w) (base := w.heap.size) (by rfl) 28 (.tmp 4) (.tmp 23) rfl rfl (w.heap.size) _ rfl rfl ⟨H4_4.out⟩ (by kernel_rfl) (by kernel_rfl) (by kernel_rfl) ⟨(HS4.out).drew⟩ (Nat.le_refl _) ?_
  intro w8a H8a HO8a HS8a hs8a
  refine hK.out _ _ ((HO8a.out _ (by omega)).trans hHeld) (fun hHeld => ?_)
  clear hK K
  refine pure_ (i := 3) (N := some 5) (v := ?_) (a' := ?_) #[true, true, true, true, false] rfl rfl (by kernel_rfl) (fun _ _ _ h => h) (Or.inl ⟨by rfl, ?_⟩) ?_ ?_
  rotate_left
  · intro w'
    go_simp
    with_reducible rfl
  rotate_left
  · simp only [Act.put, List.setIfInBounds_toArray, List.set_cons_zero, List.set_cons_succ]
    rfl
  refine one_ (i := 4) (N := none) #[true, true, true, true, true] rfl rfl (by kernel_rfl) (by decide) (fun K hK => ?_)
  refine st_step (w0 := w) (base := w.heap.size) (by rfl) 38 (.tmp 6) (.tmp 24) rfl rfl (w.heap.size + 1) _ rfl rfl ⟨(HO8a.out _ (by omega)).trans (H6_4.out)⟩ (by kernel_rfl) (by kernel_rfl) (by kernel_rfl) HS8a (Nat.le_succ _) ?_
  intro w8b H9b HO9b HS9b hs9b
  refine hK.out _ _ ((HO9b.out _ (by omega)).trans hHeld) (fun hHeld => ?_)
  clear hK K
  have H8b := Kp.mk ((HO9b.out _ (by omega)).trans H8a.out)
  refine done_ (by kernel_rfl) ?_
  go_wp2
  refine bodyPost_ret (results_ctc rfl _ _ w.heap.size (w.heap.size + 1) 28 38 _ _ (0, 0) (0, 0) _ _ rfl H8b.out Tryz.underlying28 rfl (by kernel_rfl) rfl H9b.out Tryz.underlying38 rfl (by kernel_rfl)) rfl ?_
  exact ⟨.slice none 0 0, by rw [HV.out]; rfl, Kd.R_nil _ _ _ _ _, HS9b.out⟩
theorem rread_b (A : Option Addr) (c : Nat) (xs : List Int) (a : Int) (w : World) (h : (Kd.int .u8).C w A xs.length xs) (hc : xs.length ≤ c) (hx : Byts xs) (hl : xs.length ≤ 1000000) (qn : L) (qt qc tn : Int) (hq : quR xs a = (⟨qn, qt, qc⟩, tn, .none)) (t0 : 0 ≤ tn) (t1 : tn ≤ xs.length) (er : Er) (v4 : Int) (hu : partE xs.length tn 4 = er) (hv4 : numV xs tn 4 = v4) (her : er.num ≠ 0) :
    Calls Tryz.prog 14 #[.slice A xs.length c, .int .i64 a] w (RRPost Rec.zero 0 er w) := by
  obtain ⟨f1, f2, f3, hV, hnz⟩ := fail_gen er
  have bnz : (f1 != 0) = true := by rw [hnz]; simpa using her
  have HV := Kp.mk hV
  clear hV hnz her
  have HQ : Kp (∀ W, (Kd.int .u8).C W A xs.length xs → Calls Tryz.prog 12 #[.slice A xs.length c, .int .i64 a] W fun e w' => e = .returned (.tuple #[.agg #[.string (mkB qn), .int .i64 qt, .int .i64 qc], .int .i64 tn, .agg #[.int .i64 0, .int .i64 0, .bool false]]) ∧ Below W.heap.size W w') := ⟨fun W hW => rqu_calls A c xs a W ⟨qn, qt, qc⟩ tn .none hW hc hx hl hq⟩
  have HU : Kp (∀ W, (Kd.int .u8).C W A xs.length xs → Calls Tryz.prog 46 #[.slice A xs.length c, .int .i64 (tn)] W fun e w' => e = .returned (.tuple #[.int .u32 v4, .agg #[.int .i64 f1, .int .i64 f2, .bool f3]]) ∧ Below W.heap.size W w') := ⟨fun W hW => by have := ru32_calls A c xs (tn) W hW hc hx hl (by omega); rw [hu, HV.out, hv4] at this; exact this⟩
  clear hq hu hv4 t0 t1
  have HC := Kp.mk h
  have HX := Kp.mk hx
  have HB1 := Kp.mk ((Below.refl w.heap.size w).alloc (Nat.le_refl _) (.cells #[.string ⟨#[]⟩, .int .i64 0, .int .i64 0, .int .u32 0, .bool false, .int .u8 0, .int .u8 0, .int .u8 0, .int .u8 0, .int .u8 0, .int .u8 0, .int .u8 0, .int .u8 0, .int .u8 0, .int .u8 0, .int .u8 0, .int .u8 0, .int .u8 0, .int .u8 0, .int .u8 0, .int .u8 0, .string ⟨#[]⟩, .slice none 0 0] 28))
  have HS0 := Kp.mk (HB1.out.alloc HB1.out.size (.cells #[.int .i64 0, .int .i64 0, .bool false] 38))
  have e1 : w.heap.size + 1 = (w.alloc (.cells #[.string ⟨#[]⟩, .int .i64 0, .int .i64 0, .int .u32 0, .bool false, .int .u8 0, .int .u8 0, .int .u8 0, .int .u8 0, .int .u8 0, .int .u8 0, .int .u8 0, .int .u8 0, .int .u8 0, .int .u8 0, .int .u8 0, .int .u8 0, .int .u8 0, .int .u8 0, .int .u8 0, .int .u8 0, .string ⟨#[]⟩, .slice none 0 0] 28)).heap.size := by simp
  have g1 := heap_new w (.cells #[.string ⟨#[]⟩, .int .i64 0, .int .i64 0, .int .u32 0, .bool false, .int .u8 0, .int .u8 0, .int .u8 0, .int .u8 0, .int .u8 0, .int .u8 0, .int .u8 0, .int .u8 0, .int .u8 0, .int .u8 0, .int .u8 0, .int .u8 0, .int .u8 0, .int .u8 0, .int .u8 0, .int .u8 0, .string ⟨#[]⟩, .slice none 0 0] 28)
  have g2 := heap_new (w.alloc (.cells #[.string ⟨#[]⟩, .int .i64 0, .int .i64 0, .int .u32 0, .bool false, .int .u8 0, .int .u8 0, .int .u8 0, .int .u8 0, .int .u8 0, .int .u8 0, .int .u8 0, .int .u8 0, .int .u8 0, .int .u8 0, .int .u8 0, .int .u8 0, .int .u8 0, .int .u8 0, .int .u8 0, .int .u8 0, .string ⟨#[]⟩, .slice none 0 0] 28)) (.cells #[.int .i64 0, .int .i64 0, .bool false] 38)
  have k2 := (((Below.refl _ _).alloc (Nat.le_refl _) (.cells #[.int .i64 0, .int .i64 0, .bool false] 38)).block _ (heap_lt g1)).trans g1
  rw [← e1] at g2
  have H4_0 := Kp.mk k2
  have H6_0 := Kp.mk g2
  have HC0 := Kp.mk (Kd.C_below HC.out HS0.out)
  clear g1 g2 k2 e1 HB1 h hx
  go_enter Tryz.func14, Tryz.ntmps14
  go_wp2_with (fail)
  refine t_ (HQ.out _ HC0.out) HS0 ?_
  intro w1 HB1 HS1
  have H4_1 := Kp.mk ((HB1.out.block _ (heap_lt H4_0.out)).trans H4_0.out)
  have H6_1 := Kp.mk ((HB1.out.block _ (heap_lt H6_0.out)).trans H6_0.out)
  have HA1 := Kp.mk ((Below.refl w1.heap.size w1).alloc (Nat.le_refl _) (.cells #[.string ⟨#[]⟩, .int .i64 0, .int .i64 0] 30))
  have HA2 := Kp.mk (HA1.out.alloc HA1.out.size (.cells #[.int .i64 0, .int .i64 0, .bool false] 38))
  have e1 : w1.heap.size + 1 = (w1.alloc (.cells #[.string ⟨#[]⟩, .int .i64 0, .int .i64 0] 30)).heap.size := by simp
  have g1 := heap_new w1 (.cells #[.string ⟨#[]⟩, .int .i64 0, .int .i64 0] 30)
  have g2 := heap_new (w1.alloc (.cells #[.string ⟨#[]⟩, .int .i64 0, .int .i64 0] 30)) (.cells #[.int .i64 0, .int .i64 0, .bool false] 38)
  have k2 := (((Below.refl _ _).alloc (Nat.le_refl _) (.cells #[.int .i64 0, .int .i64 0, .bool false] 38)).block _ (heap_lt g1)).trans g1
  rw [← e1] at g2
  have H7_2 := Kp.mk k2
  have H9_2 := Kp.mk g2
  have HS2 := Kp.mk (below_step HS1.out HA2.out)
  have H4_2 := Kp.mk ((HA2.out.block _ (heap_lt H4_1.out)).trans H4_1.out)
  have H6_2 := Kp.mk ((HA2.out.block _ (heap_lt H6_1.out)).trans H6_1.out)
  have hz1 := heap_lt H6_1.out
  clear g1 g2 k2 e1 HA1 HA2 H4_0 H6_0 H4_1 H6_1
  go_wp2_with (with_reducible refine st_blk (w0 := w) (base := w.heap.size) rfl 30 (.tmp 7) (.tmp 17) rfl rfl w1.heap.size _ rfl rfl H7_2 (by kernel_rfl) (by kernel_rfl) (by kernel_rfl) HS2 (by omega) ?_)
  intro w3 H7_3 HO3 HS3 hs3
  have H9_3 := Kp.mk ((HO3.out _ (by omega)).trans H9_2.out)
  have H4_3 := Kp.mk ((HO3.out _ (by omega)).trans H4_2.out)
  have H6_3 := Kp.mk ((HO3.out _ (by omega)).trans H6_2.out)
  clear H4_2 H6_2 H9_2 H7_2
  go_wp2_with (with_reducible refine st_blk (w0 := w) (base := w.heap.size) rfl 38 (.tmp 9) (.tmp 19) rfl rfl (w1.heap.size + 1) _ rfl rfl H9_3 (by kernel_rfl) (by kernel_rfl) (by kernel_rfl) HS3 (by omega) ?_)
  intro w4 H9_4 HO4 HS4 hs4
  have H7_4 := Kp.mk ((HO4.out _ (by omega)).trans H7_3.out)
  have H4_4 := Kp.mk ((HO4.out _ (by omega)).trans H4_3.out)
  have H6_4 := Kp.mk ((HO4.out _ (by omega)).trans H6_3.out)
  have HC4 := Kp.mk (Kd.C_below HC.out HS4.out)
  clear H4_3 H6_3 H9_3 H7_3 hs3 hs4 HO3 HO4 HS3
  have d9 := blk_cell H9_4.out 0
  go_wp2_with (fail)
  refine t_ (HU.out _ HC4.out) HS4 ?_
  intro w5 HB5 HS5
  have H4_5 := Kp.mk ((HB5.out.block _ (heap_lt H4_4.out)).trans H4_4.out)
  have H6_5 := Kp.mk ((HB5.out.block _ (heap_lt H6_4.out)).trans H6_4.out)
  have H7_5 := Kp.mk ((HB5.out.block _ (heap_lt H7_4.out)).trans H7_4.out)
  have H9_5 := Kp.mk ((HB5.out.block _ (heap_lt H9_4.out)).trans H9_4.out)
  clear H4_4 H6_4 H7_4 H9_4 d9
  go_wp2_with (with_reducible refine st_blk (w0 := w) (base := w.heap.size) rfl 38 (.tmp 9) (.tmp 30) rfl rfl (w1.heap.size + 1) _ rfl rfl H9_5 (by kernel_rfl) (by kernel_rfl) (by kernel_rfl) HS5 (by omega) ?_)
  intro w6 H9_6 HO6 HS6 hs6
  have H4_6 := Kp.mk ((HO6.out _ (by omega)).trans H4_5.out)
  have H6_6 := Kp.mk ((HO6.out _ (by omega)).trans H6_5.out)
  have H7_6 := Kp.mk ((HO6.out _ (by omega)).trans H7_5.out)
  have HC6 := Kp.mk (Kd.C_below HC.out HS6.out)
  have d9 := blk_cell H9_6.out 0
  clear H4_5 H6_5 H7_5 H9_5 hs6
  go_wp2_with (fail)
  refine start_ (n := 5) (S := fun w' => w'.heap[w1.heap.size + 1]? = some (.cells #[.int .i64 f1, .int .i64 f2, .bool f3] 38 (0, 0))) (ds := []) #[false, false, false, false, false] (by kernel_rfl) rfl rfl (H9_6.out) (fun hHeld => ?_)
  refine take_blk (v := .agg #[.int .i64 f1, .int .i64 f2, .bool f3]) (i := 1) (N := some 35) (a' := ?_) #[false, true, false, false, false] rfl rfl (by kernel_rfl) (fun _ _ _ h => h) (by rfl) 38 (.tmp 9) rfl (w1.heap.size + 1) (by rfl) #[.int .i64 f1, .int .i64 f2, .bool f3] rfl (fun _ h => h) Tryz.underlying38 rfl (by kernel_rfl) hHeld ?_ ?_
  rotate_left
  · simp only [Act.put, List.setIfInBounds_toArray, List.set_cons_zero, List.set_cons_succ]
    rfl
  refine pure_ (i := 0) (N := some 34) (v := ?_) (a' := ?_) #[true, true, false, false, false] rfl rfl (by kernel_rfl) (fun _ _ _ h => h) (Or.inl ⟨by rfl, ?_⟩) ?_ ?_
  rotate_left
  · intro w'
    go_simp
    with_reducible rfl
  rotate_left
  · simp only [Act.put, List.setIfInBounds_toArray, List.set_cons_zero, List.set_cons_succ]
    rfl
  refine one_ (i := 2) (N := none) #[true, true, true, false, false] rfl rfl (by kernel_rfl) (by decide) (fun K hK => ?_)
  refine st_step (w0 := w) (base := w.heap.size) (by rfl) 28 (.tmp 4) (.tmp 34) rfl rfl (w.heap.size) _ rfl rfl ⟨H4_6.out⟩ (by kernel_rfl) (by kernel_rfl) (by kernel_rfl) ⟨(HS6.out).drew⟩ (Nat.le_refl _) ?_
  intro w8a H8a HO8a HS8a hs8a
  refine hK.out _ _ ((HO8a.out _ (by omega)).trans hHeld) (fun hHeld => ?_)
  clear hK K
  refine pure_ (i := 3) (N := some 5) (v := ?_) (a' := ?_) #[true, true, true, true, false] rfl rfl (by kernel_rfl) (fun _ _ _ h => h) (Or.inl ⟨by rfl, ?_⟩) ?_ ?_
  rotate_left
  · intro w'
    go_simp
    with_reducible rfl
  rotate_left
  · simp only [Act.put, List.setIfInBounds_toArray, List.set_cons_zero, List.set_cons_succ]
    rfl
  refine one_ (i := 4) (N := none) #[true, true, true, true, true] rfl rfl (by kernel_rfl) (by decide) (fun K hK => ?_)
  refine st_step (w0 := w) (base := w.heap.size) (by rfl) 38 (.tmp 6) (.tmp 35) rfl rfl (w.heap.size + 1) _ rfl rfl ⟨(HO8a.out _ (by omega)).trans (H6_6.out)⟩ (by kernel_rfl) (by kernel_rfl) (by kernel_rfl) HS8a (Nat.le_succ _) ?_
  intro w8b H9b HO9b HS9b hs9b
  refine hK.out _ _ ((HO9b.out _ (by omega)).trans hHeld) (fun hHeld => ?_)
  clear hK K
  have H8b := Kp.mk ((HO9b.out _ (by omega)).trans H8a.out)
  refine done_ (by kernel_rfl) ?_
  go_wp2
  refine bodyPost_ret (results_ctc rfl _ _ w.heap.size (w.heap.size + 1) 28 38 _ _ (0, 0) (0, 0) _ _ rfl H8b.out Tryz.underlying28 rfl (by kernel_rfl) rfl H9b.out Tryz.underlying38 rfl (by kernel_rfl)) rfl ?_
  exact ⟨.slice none 0 0, by rw [HV.out]; rfl, Kd.R_nil _ _ _ _ _, HS9b.out⟩
theorem rread_c (A : Option Addr) (c : Nat) (xs : List Int) (a : Int) (w : World) (h : (Kd.int .u8).C w A xs.length xs) (hc : xs.length ≤ c) (hx : Byts xs) (hl : xs.length ≤ 1000000) (qn : L) (qt qc tn : Int) (hq : quR xs a = (⟨qn, qt, qc⟩, tn, .none)) (t0 : 0 ≤ tn) (t1 : tn ≤ xs.length) (v4 : Int) (hu : partE xs.length tn 4 = .none) (hv4 : numV xs tn 4 = v4) (er : Er) (vn : Int) (hn : partE xs.length (tn + 4) 2 = er) (hvn : numV xs (tn + 4) 2 = vn) (her : er.num ≠ 0) :
    Calls Tryz.prog 14 #[.slice A xs.length c, .int .i64 a] w (RRPost Rec.zero 0 er w) := by
  obtain ⟨f1, f2, f3, hV, hnz⟩ := fail_gen er
  have bnz : (f1 != 0) = true := by rw [hnz]; simpa using her
  have HV := Kp.mk hV
  clear hV hnz her
  have HQ : Kp (∀ W, (Kd.int .u8).C W A xs.length xs → Calls Tryz.prog 12 #[.slice A xs.length c, .int .i64 a] W fun e w' => e = .returned (.tuple #[.agg #[.string (mkB qn), .int .i64 qt, .int .i64 qc], .int .i64 tn, .agg #[.int .i64 0, .int .i64 0, .bool false]]) ∧ Below W.heap.size W w') := ⟨fun W hW => rqu_calls A c xs a W ⟨qn, qt, qc⟩ tn .none hW hc hx hl hq⟩
  have HU : Kp (∀ W, (Kd.int .u8).C W A xs.length xs → Calls Tryz.prog 46 #[.slice A xs.length c, .int .i64 (tn)] W fun e w' => e = .returned (.tuple #[.int .u32 v4, .agg #[.int .i64 0, .int .i64 0, .bool false]]) ∧ Below W.heap.size W w') := ⟨fun W hW => by have := ru32_calls A c xs (tn) W hW hc hx hl (by omega); rw [hu, hv4] at this; exact this⟩
  have HN : Kp (∀ W, (Kd.int .u8).C W A xs.length xs → Calls Tryz.prog 43 #[.slice A xs.length c, .int .i64 (tn + 4)] W fun e w' => e = .returned (.tuple #[.int .i64 vn, .agg #[.int .i64 f1, .int .i64 f2, .bool f3]]) ∧ Below W.heap.size W w') := ⟨fun W hW => by have := ru16_calls A c xs (tn + 4) W hW hc hx hl (by omega); rw [hn, HV.out, hvn] at this; exact this⟩
  have wt4 : wrap64 (tn + 4) = tn + 4 := by unfold wrap64; omega
  clear hq hu hv4 hn hvn t0 t1
  have HC := Kp.mk h
  have HX := Kp.mk hx
  have HB1 := Kp.mk ((Below.refl w.heap.size w).alloc (Nat.le_refl _) (.cells #[.string ⟨#[]⟩, .int .i64 0, .int .i64 0, .int .u32 0, .bool false, .int .u8 0, .int .u8 0, .int .u8 0, .int .u8 0, .int .u8 0, .int .u8 0, .int .u8 0, .int .u8 0, .int .u8 0, .int .u8 0, .int .u8 0, .int .u8 0, .int .u8 0, .int .u8 0, .int .u8 0, .int .u8 0, .string ⟨#[]⟩, .slice none 0 0] 28))
  have HS0 := Kp.mk (HB1.out.alloc HB1.out.size (.cells #[.int .i64 0, .int .i64 0, .bool false] 38))
  have e1 : w.heap.size + 1 = (w.alloc (.cells #[.string ⟨#[]⟩, .int .i64 0, .int .i64 0, .int .u32 0, .bool false, .int .u8 0, .int .u8 0, .int .u8 0, .int .u8 0, .int .u8 0, .int .u8 0, .int .u8 0, .int .u8 0, .int .u8 0, .int .u8 0, .int .u8 0, .int .u8 0, .int .u8 0, .int .u8 0, .int .u8 0, .int .u8 0, .string ⟨#[]⟩, .slice none 0 0] 28)).heap.size := by simp
  have g1 := heap_new w (.cells #[.string ⟨#[]⟩, .int .i64 0, .int .i64 0, .int .u32 0, .bool false, .int .u8 0, .int .u8 0, .int .u8 0, .int .u8 0, .int .u8 0, .int .u8 0, .int .u8 0, .int .u8 0, .int .u8 0, .int .u8 0, .int .u8 0, .int .u8 0, .int .u8 0, .int .u8 0, .int .u8 0, .int .u8 0, .string ⟨#[]⟩, .slice none 0 0] 28)
  have g2 := heap_new (w.alloc (.cells #[.string ⟨#[]⟩, .int .i64 0, .int .i64 0, .int .u32 0, .bool false, .int .u8 0, .int .u8 0, .int .u8 0, .int .u8 0, .int .u8 0, .int .u8 0, .int .u8 0, .int .u8 0, .int .u8 0, .int .u8 0, .int .u8 0, .int .u8 0, .int .u8 0, .int .u8 0, .int .u8 0, .int .u8 0, .string ⟨#[]⟩, .slice none 0 0] 28)) (.cells #[.int .i64 0, .int .i64 0, .bool false] 38)
  have k2 := (((Below.refl _ _).alloc (Nat.le_refl _) (.cells #[.int .i64 0, .int .i64 0, .bool false] 38)).block _ (heap_lt g1)).trans g1
  rw [← e1] at g2
  have H4_0 := Kp.mk k2
  have H6_0 := Kp.mk g2
  have HC0 := Kp.mk (Kd.C_below HC.out HS0.out)
  clear g1 g2 k2 e1 HB1 h hx
  go_enter Tryz.func14, Tryz.ntmps14
  go_wp2_with (fail)
  refine t_ (HQ.out _ HC0.out) HS0 ?_
  intro w1 HB1 HS1
  have H4_1 := Kp.mk ((HB1.out.block _ (heap_lt H4_0.out)).trans H4_0.out)
  have H6_1 := Kp.mk ((HB1.out.block _ (heap_lt H6_0.out)).trans H6_0.out)
  have HA1 := Kp.mk ((Below.refl w1.heap.size w1).alloc (Nat.le_refl _) (.cells #[.string ⟨#[]⟩, .int .i64 0, .int .i64 0] 30))
  have HA2 := Kp.mk (HA1.out.alloc HA1.out.size (.cells #[.int .i64 0, .int .i64 0, .bool false] 38))
  have e1 : w1.heap.size + 1 = (w1.alloc (.cells #[.string ⟨#[]⟩, .int .i64 0, .int .i64 0] 30)).heap.size := by simp
  have g1 := heap_new w1 (.cells #[.string ⟨#[]⟩, .int .i64 0, .int .i64 0] 30)
  have g2 := heap_new (w1.alloc (.cells #[.string ⟨#[]⟩, .int .i64 0, .int .i64 0] 30)) (.cells #[.int .i64 0, .int .i64 0, .bool false] 38)
  have k2 := (((Below.refl _ _).alloc (Nat.le_refl _) (.cells #[.int .i64 0, .int .i64 0, .bool false] 38)).block _ (heap_lt g1)).trans g1
  rw [← e1] at g2
  have H7_2 := Kp.mk k2
  have H9_2 := Kp.mk g2
  have HS2 := Kp.mk (below_step HS1.out HA2.out)
  have H4_2 := Kp.mk ((HA2.out.block _ (heap_lt H4_1.out)).trans H4_1.out)
  have H6_2 := Kp.mk ((HA2.out.block _ (heap_lt H6_1.out)).trans H6_1.out)
  have hz1 := heap_lt H6_1.out
  clear g1 g2 k2 e1 HA1 HA2 H4_0 H6_0 H4_1 H6_1
  go_wp2_with (with_reducible refine st_blk (w0 := w) (base := w.heap.size) rfl 30 (.tmp 7) (.tmp 17) rfl rfl w1.heap.size _ rfl rfl H7_2 (by kernel_rfl) (by kernel_rfl) (by kernel_rfl) HS2 (by omega) ?_)
  intro w3 H7_3 HO3 HS3 hs3
  have H9_3 := Kp.mk ((HO3.out _ (by omega)).trans H9_2.out)
  have H4_3 := Kp.mk ((HO3.out _ (by omega)).trans H4_2.out)
  have H6_3 := Kp.mk ((HO3.out _ (by omega)).trans H6_2.out)
  clear H4_2 H6_2 H9_2 H7_2
  go_wp2_with (with_reducible refine st_blk (w0 := w) (base := w.heap.size) rfl 38 (.tmp 9) (.tmp 19) rfl rfl (w1.heap.size + 1) _ rfl rfl H9_3 (by kernel_rfl) (by kernel_rfl) (by kernel_rfl) HS3 (by omega) ?_)
  intro w4 H9_4 HO4 HS4 hs4
  have H7_4 := Kp.mk ((HO4.out _ (by omega)).trans H7_3.out)
  have H4_4 := Kp.mk ((HO4.out _ (by omega)).trans H4_3.out)
  have H6_4 := Kp.mk ((HO4.out _ (by omega)).trans H6_3.out)
  have HC4 := Kp.mk (Kd.C_below HC.out HS4.out)
  clear H4_3 H6_3 H9_3 H7_3 hs3 hs4 HO3 HO4 HS3
  have d9 := blk_cell H9_4.out 0
  go_wp2_with (fail)
  refine t_ (HU.out _ HC4.out) HS4 ?_
  intro w5 HB5 HS5
  have H4_5 := Kp.mk ((HB5.out.block _ (heap_lt H4_4.out)).trans H4_4.out)
  have H6_5 := Kp.mk ((HB5.out.block _ (heap_lt H6_4.out)).trans H6_4.out)
  have H7_5 := Kp.mk ((HB5.out.block _ (heap_lt H7_4.out)).trans H7_4.out)
  have H9_5 := Kp.mk ((HB5.out.block _ (heap_lt H9_4.out)).trans H9_4.out)
  clear H4_4 H6_4 H7_4 H9_4 d9
  go_wp2_with (with_reducible refine st_blk (w0 := w) (base := w.heap.size) rfl 38 (.tmp 9) (.tmp 30) rfl rfl (w1.heap.size + 1) _ rfl rfl H9_5 (by kernel_rfl) (by kernel_rfl) (by kernel_rfl) HS5 (by omega) ?_)
  intro w6 H9_6 HO6 HS6 hs6
  have H4_6 := Kp.mk ((HO6.out _ (by omega)).trans H4_5.out)
  have H6_6 := Kp.mk ((HO6.out _ (by omega)).trans H6_5.out)
  have H7_6 := Kp.mk ((HO6.out _ (by omega)).trans H7_5.out)
  have HC6 := Kp.mk (Kd.C_below HC.out HS6.out)
  have d9 := blk_cell H9_6.out 0
  clear H4_5 H6_5 H7_5 H9_5 hs6
  go_wp2_with (fail)
  refine t_ (HN.out _ HC6.out) HS6 ?_
  intro w7 HB7 HS7
  have H4_7 := Kp.mk ((HB7.out.block _ (heap_lt H4_6.out)).trans H4_6.out)
  have H6_7 := Kp.mk ((HB7.out.block _ (heap_lt H6_6.out)).trans H6_6.out)
  have H7_7 := Kp.mk ((HB7.out.block _ (heap_lt H7_6.out)).trans H7_6.out)
  have H9_7 := Kp.mk ((HB7.out.block _ (heap_lt H9_6.out)).trans H9_6.out)
  clear H4_6 H6_6 H7_6 H9_6 d9
  go_wp2_with (with_reducible refine st_blk (w0 := w) (base := w.heap.size) rfl 38 (.tmp 9) (.tmp 42) rfl rfl (w1.heap.size + 1) _ rfl rfl H9_7 (by kernel_rfl) (by kernel_rfl) (by kernel_rfl) HS7 (by omega) ?_)
  intro w8 H9_8 HO8 HS8 hs8
  have H4_8 := Kp.mk ((HO8.out _ (by omega)).trans H4_7.out)
  have H6_8 := Kp.mk ((HO8.out _ (by omega)).trans H6_7.out)
  have H7_8 := Kp.mk ((HO8.out _ (by omega)).trans H7_7.out)
  have HC8 := Kp.mk (Kd.C_below HC.out HS8.out)
  have d9 := blk_cell H9_8.out 0
  clear H4_7 H6_7 H7_7 H9_7 hs8
  go_wp2_with (fail)
  refine start_ (n := 5) (S := fun w' => w'.heap[w1.heap.size + 1]? = some (.cells #[.int .i64 f1, .int .i64 f2, .bool f3] 38 (0, 0))) (ds := []) #[false, false, false, false, false] (by kernel_rfl) rfl rfl (H9_8.out) (fun hHeld => ?_)
  refine take_blk (v := .agg #[.int .i64 f1, .int .i64 f2, .bool f3]) (i := 1) (N := some 47) (a' := ?_) #[false, true, false, false, false] rfl rfl (by kernel_rfl) (fun _ _ _ h => h) (by rfl) 38 (.tmp 9) rfl (w1.heap.size + 1) (by rfl) #[.int .i64 f1, .int .i64 f2, .bool f3] rfl (fun _ h => h) Tryz.underlying38 rfl (by kernel_rfl) hHeld ?_ ?_
  rotate_left
  · simp only [Act.put, List.setIfInBounds_toArray, List.set_cons_zero, List.set_cons_succ]
    rfl
  refine pure_ (i := 0) (N := some 46) (v := ?_) (a' := ?_) #[true, true, false, false, false] rfl rfl (by kernel_rfl) (fun _ _ _ h => h) (Or.inl ⟨by rfl, ?_⟩) ?_ ?_
  rotate_left
  · intro w'
    go_simp
    with_reducible rfl
  rotate_left
  · simp only [Act.put, List.setIfInBounds_toArray, List.set_cons_zero, List.set_cons_succ]
    rfl
  refine one_ (i := 2) (N := none) #[true, true, true, false, false] rfl rfl (by kernel_rfl) (by decide) (fun K hK => ?_)
  refine st_step (w0 := w) (base := w.heap.size) (by rfl) 28 (.tmp 4) (.tmp 46) rfl rfl (w.heap.size) _ rfl rfl ⟨H4_8.out⟩ (by kernel_rfl) (by kernel_rfl) (by kernel_rfl) ⟨(HS8.out).drew⟩ (Nat.le_refl _) ?_
  intro w8a H8a HO8a HS8a hs8a
  refine hK.out _ _ ((HO8a.out _ (by omega)).trans hHeld) (fun hHeld => ?_)
  clear hK K
  refine pure_ (i := 3) (N := some 5) (v := ?_) (a' := ?_) #[true, true, true, true, false] rfl rfl (by kernel_rfl) (fun _ _ _ h => h) (Or.inl ⟨by rfl, ?_⟩) ?_ ?_
  rotate_left
  · intro w'
    go_simp
    with_reducible rfl
  rotate_left
  · simp only [Act.put, List.setIfInBounds_toArray, List.set_cons_zero, List.set_cons_succ]
    rfl
  refine one_ (i := 4) (N := none) #[true, true, true, true, true] rfl rfl (by kernel_rfl) (by decide) (fun K hK => ?_)
  refine st_step (w0 := w) (base := w.heap.size) (by rfl) 38 (.tmp 6) (.tmp 47) rfl rfl (w.heap.size + 1) _ rfl rfl ⟨(HO8a.out _ (by omega)).trans (H6_8.out)⟩ (by kernel_rfl) (by kernel_rfl) (by kernel_rfl) HS8a (Nat.le_succ _) ?_
  intro w8b H9b HO9b HS9b hs9b
  refine hK.out _ _ ((HO9b.out _ (by omega)).trans hHeld) (fun hHeld => ?_)
  clear hK K
  have H8b := Kp.mk ((HO9b.out _ (by omega)).trans H8a.out)
  refine done_ (by kernel_rfl) ?_
  go_wp2
  refine bodyPost_ret (results_ctc rfl _ _ w.heap.size (w.heap.size + 1) 28 38 _ _ (0, 0) (0, 0) _ _ rfl H8b.out Tryz.underlying28 rfl (by kernel_rfl) rfl H9b.out Tryz.underlying38 rfl (by kernel_rfl)) rfl ?_
  exact ⟨.slice none 0 0, by rw [HV.out]; rfl, Kd.R_nil _ _ _ _ _, HS9b.out⟩
theorem rread_d (A : Option Addr) (c : Nat) (xs : List Int) (a : Int) (w : World) (h : (Kd.int .u8).C w A xs.length xs) (hc : xs.length ≤ c) (hx : Byts xs) (hl : xs.length ≤ 1000000) (qn : L) (qt qc tn : Int) (hq : quR xs a = (⟨qn, qt, qc⟩, tn, .none)) (t0 : 0 ≤ tn) (t1 : tn ≤ xs.length) (v4 : Int) (hu : partE xs.length tn 4 = .none) (hv4 : numV xs tn 4 = v4) (vn : Int) (hn : partE xs.length (tn + 4) 2 = .none) (hvn : numV xs (tn + 4) 2 = vn) (n0 : 0 ≤ vn) (n1 : vn ≤ 65535) (t2 : tn + 6 ≤ xs.length) (hs : (xs.length : Int) - tn - 6 < vn) :
    Calls Tryz.prog 14 #[.slice A xs.length c, .int .i64 a] w (RRPost Rec.zero 0 (.fault (tn + 4) 3) w) := by
  have HQ : Kp (∀ W, (Kd.int .u8).C W A xs.length xs → Calls Tryz.prog 12 #[.slice A xs.length c, .int .i64 a] W fun e w' => e = .returned (.tuple #[.agg #[.string (mkB qn), .int .i64 qt, .int .i64 qc], .int .i64 tn, .agg #[.int .i64 0, .int .i64 0, .bool false]]) ∧ Below W.heap.size W w') := ⟨fun W hW => rqu_calls A c xs a W ⟨qn, qt, qc⟩ tn .none hW hc hx hl hq⟩
  have HU : Kp (∀ W, (Kd.int .u8).C W A xs.length xs → Calls Tryz.prog 46 #[.slice A xs.length c, .int .i64 (tn)] W fun e w' => e = .returned (.tuple #[.int .u32 v4, .agg #[.int .i64 0, .int .i64 0, .bool false]]) ∧ Below W.heap.size W w') := ⟨fun W hW => by have := ru32_calls A c xs (tn) W hW hc hx hl (by omega); rw [hu, hv4] at this; exact this⟩
  have HN : Kp (∀ W, (Kd.int .u8).C W A xs.length xs → Calls Tryz.prog 43 #[.slice A xs.length c, .int .i64 (tn + 4)] W fun e w' => e = .returned (.tuple #[.int .i64 vn, .agg #[.int .i64 0, .int .i64 0, .bool false]]) ∧ Below W.heap.size W w') := ⟨fun W hW => by have := ru16_calls A c xs (tn + 4) W hW hc hx hl (by omega); rw [hn, hvn] at this; exact this⟩
  have wt4 : wrap64 (tn + 4) = tn + 4 := by unfold wrap64; omega
  have wd1 : wrap64 ((xs.length : Int) - tn) = (xs.length : Int) - tn := by unfold wrap64; omega
  have wd2 : wrap64 ((xs.length : Int) - tn - 6) = (xs.length : Int) - tn - 6 := by unfold wrap64; omega
  have bs : decide ((xs.length : Int) - tn - 6 < vn) = true := by simpa using hs
  clear hq hu hv4 hn hvn t0 t1 n0 n1 t2 hs
  have HC := Kp.mk h
  have HX := Kp.mk hx
  have HB1 := Kp.mk ((Below.refl w.heap.size w).alloc (Nat.le_refl _) (.cells #[.string ⟨#[]⟩, .int .i64 0, .int .i64 0, .int .u32 0, .bool false, .int .u8 0, .int .u8 0, .int .u8 0, .int .u8 0, .int .u8 0, .int .u8 0, .int .u8 0, .int .u8 0, .int .u8 0, .int .u8 0, .int .u8 0, .int .u8 0, .int .u8 0, .int .u8 0, .int .u8 0, .int .u8 0, .string ⟨#[]⟩, .slice none 0 0] 28))
  have HS0 := Kp.mk (HB1.out.alloc HB1.out.size (.cells #[.int .i64 0, .int .i64 0, .bool false] 38))
  have e1 : w.heap.size + 1 = (w.alloc (.cells #[.string ⟨#[]⟩, .int .i64 0, .int .i64 0, .int .u32 0, .bool false, .int .u8 0, .int .u8 0, .int .u8 0, .int .u8 0, .int .u8 0, .int .u8 0, .int .u8 0, .int .u8 0, .int .u8 0, .int .u8 0, .int .u8 0, .int .u8 0, .int .u8 0, .int .u8 0, .int .u8 0, .int .u8 0, .string ⟨#[]⟩, .slice none 0 0] 28)).heap.size := by simp
  have g1 := heap_new w (.cells #[.string ⟨#[]⟩, .int .i64 0, .int .i64 0, .int .u32 0, .bool false, .int .u8 0, .int .u8 0, .int .u8 0, .int .u8 0, .int .u8 0, .int .u8 0, .int .u8 0, .int .u8 0, .int .u8 0, .int .u8 0, .int .u8 0, .int .u8 0, .int .u8 0, .int .u8 0, .int .u8 0, .int .u8 0, .string ⟨#[]⟩, .slice none 0 0] 28)
  have g2 := heap_new (w.alloc (.cells #[.string ⟨#[]⟩, .int .i64 0, .int .i64 0, .int .u32 0, .bool false, .int .u8 0, .int .u8 0, .int .u8 0, .int .u8 0, .int .u8 0, .int .u8 0, .int .u8 0, .int .u8 0, .int .u8 0, .int .u8 0, .int .u8 0, .int .u8 0, .int .u8 0, .int .u8 0, .int .u8 0, .int .u8 0, .string ⟨#[]⟩, .slice none 0 0] 28)) (.cells #[.int .i64 0, .int .i64 0, .bool false] 38)
  have k2 := (((Below.refl _ _).alloc (Nat.le_refl _) (.cells #[.int .i64 0, .int .i64 0, .bool false] 38)).block _ (heap_lt g1)).trans g1
  rw [← e1] at g2
  have H4_0 := Kp.mk k2
  have H6_0 := Kp.mk g2
  have HC0 := Kp.mk (Kd.C_below HC.out HS0.out)
  clear g1 g2 k2 e1 HB1 h hx
  go_enter Tryz.func14, Tryz.ntmps14
  go_wp2_with (fail)
  refine t_ (HQ.out _ HC0.out) HS0 ?_
  intro w1 HB1 HS1
  have H4_1 := Kp.mk ((HB1.out.block _ (heap_lt H4_0.out)).trans H4_0.out)
  have H6_1 := Kp.mk ((HB1.out.block _ (heap_lt H6_0.out)).trans H6_0.out)
  have HA1 := Kp.mk ((Below.refl w1.heap.size w1).alloc (Nat.le_refl _) (.cells #[.string ⟨#[]⟩, .int .i64 0, .int .i64 0] 30))
  have HA2 := Kp.mk (HA1.out.alloc HA1.out.size (.cells #[.int .i64 0, .int .i64 0, .bool false] 38))
  have e1 : w1.heap.size + 1 = (w1.alloc (.cells #[.string ⟨#[]⟩, .int .i64 0, .int .i64 0] 30)).heap.size := by simp
  have g1 := heap_new w1 (.cells #[.string ⟨#[]⟩, .int .i64 0, .int .i64 0] 30)
  have g2 := heap_new (w1.alloc (.cells #[.string ⟨#[]⟩, .int .i64 0, .int .i64 0] 30)) (.cells #[.int .i64 0, .int .i64 0, .bool false] 38)
  have k2 := (((Below.refl _ _).alloc (Nat.le_refl _) (.cells #[.int .i64 0, .int .i64 0, .bool false] 38)).block _ (heap_lt g1)).trans g1
  rw [← e1] at g2
  have H7_2 := Kp.mk k2
  have H9_2 := Kp.mk g2
  have HS2 := Kp.mk (below_step HS1.out HA2.out)
  have H4_2 := Kp.mk ((HA2.out.block _ (heap_lt H4_1.out)).trans H4_1.out)
  have H6_2 := Kp.mk ((HA2.out.block _ (heap_lt H6_1.out)).trans H6_1.out)
  have hz1 := heap_lt H6_1.out
  clear g1 g2 k2 e1 HA1 HA2 H4_0 H6_0 H4_1 H6_1
  go_wp2_with (with_reducible refine st_blk (w0 := w) (base := w.heap.size) rfl 30 (.tmp 7) (.tmp 17) rfl rfl w1.heap.size _ rfl rfl H7_2 (by kernel_rfl) (by kernel_rfl) (by kernel_rfl) HS2 (by omega) ?_)
  intro w3 H7_3 HO3 HS3 hs3
  have H9_3 := Kp.mk ((HO3.out _ (by omega)).trans H9_2.out)
  have H4_3 := Kp.mk ((HO3.out _ (by omega)).trans H4_2.out)
  have H6_3 := Kp.mk ((HO3.out _ (by omega)).trans H6_2.out)
  clear H4_2 H6_2 H9_2 H7_2
  go_wp2_with (with_reducible refine st_blk (w0 := w) (base := w.heap.size) rfl 38 (.tmp 9) (.tmp 19) rfl rfl (w1.heap.size + 1) _ rfl rfl H9_3 (by kernel_rfl) (by kernel_rfl) (by kernel_rfl) HS3 (by omega) ?_)
  intro w4 H9_4 HO4 HS4 hs4
  have H7_4 := Kp.mk ((HO4.out _ (by omega)).trans H7_3.out)
  have H4_4 := Kp.mk ((HO4.out _ (by omega)).trans H4_3.out)
  have H6_4 := Kp.mk ((HO4.out _ (by omega)).trans H6_3.out)
  have HC4 := Kp.mk (Kd.C_below HC.out HS4.out)
  clear H4_3 H6_3 H9_3 H7_3 hs3 hs4 HO3 HO4 HS3
  have d9 := blk_cell H9_4.out 0
  go_wp2_with (fail)
  refine t_ (HU.out _ HC4.out) HS4 ?_
  intro w5 HB5 HS5
  have H4_5 := Kp.mk ((HB5.out.block _ (heap_lt H4_4.out)).trans H4_4.out)
  have H6_5 := Kp.mk ((HB5.out.block _ (heap_lt H6_4.out)).trans H6_4.out)
  have H7_5 := Kp.mk ((HB5.out.block _ (heap_lt H7_4.out)).trans H7_4.out)
  have H9_5 := Kp.mk ((HB5.out.block _ (heap_lt H9_4.out)).trans H9_4.out)
  clear H4_4 H6_4 H7_4 H9_4 d9
  go_wp2_with (with_reducible refine st_blk (w0 := w) (base := w.heap.size) rfl 38 (.tmp 9) (.tmp 30) rfl rfl (w1.heap.size + 1) _ rfl rfl H9_5 (by kernel_rfl) (by kernel_rfl) (by kernel_rfl) HS5 (by omega) ?_)
  intro w6 H9_6 HO6 HS6 hs6
  have H4_6 := Kp.mk ((HO6.out _ (by omega)).trans H4_5.out)
  have H6_6 := Kp.mk ((HO6.out _ (by omega)).trans H6_5.out)
  have H7_6 := Kp.mk ((HO6.out _ (by omega)).trans H7_5.out)
  have HC6 := Kp.mk (Kd.C_below HC.out HS6.out)
  have d9 := blk_cell H9_6.out 0
  clear H4_5 H6_5 H7_5 H9_5 hs6
  go_wp2_with (fail)
  refine t_ (HN.out _ HC6.out) HS6 ?_
  intro w7 HB7 HS7
  have H4_7 := Kp.mk ((HB7.out.block _ (heap_lt H4_6.out)).trans H4_6.out)
  have H6_7 := Kp.mk ((HB7.out.block _ (heap_lt H6_6.out)).trans H6_6.out)
  have H7_7 := Kp.mk ((HB7.out.block _ (heap_lt H7_6.out)).trans H7_6.out)
  have H9_7 := Kp.mk ((HB7.out.block _ (heap_lt H9_6.out)).trans H9_6.out)
  clear H4_6 H6_6 H7_6 H9_6 d9
  go_wp2_with (with_reducible refine st_blk (w0 := w) (base := w.heap.size) rfl 38 (.tmp 9) (.tmp 42) rfl rfl (w1.heap.size + 1) _ rfl rfl H9_7 (by kernel_rfl) (by kernel_rfl) (by kernel_rfl) HS7 (by omega) ?_)
  intro w8 H9_8 HO8 HS8 hs8
  have H4_8 := Kp.mk ((HO8.out _ (by omega)).trans H4_7.out)
  have H6_8 := Kp.mk ((HO8.out _ (by omega)).trans H6_7.out)
  have H7_8 := Kp.mk ((HO8.out _ (by omega)).trans H7_7.out)
  have HC8 := Kp.mk (Kd.C_below HC.out HS8.out)
  have d9 := blk_cell H9_8.out 0
  clear H4_7 H6_7 H7_7 H9_7 hs8
  go_wp2_with (fail)
  refine (stockadehelp_At.calls 3 (tn + 4) 3 (tn + 4) true _ rfl).mono ?_
  rintro e w9 ⟨rfl, hb⟩
  have HS9 := Kp.mk (below_step HS8.out hb)
  have H4_9 := Kp.mk ((hb.block _ (heap_lt H4_8.out)).trans H4_8.out)
  have H6_9 := Kp.mk ((hb.block _ (heap_lt H6_8.out)).trans H6_8.out)
  clear hb d9
  go_wp2_with (with_reducible refine st_blk (w0 := w) (base := w.heap.size) rfl 28 (.tmp 4) (.tmp 55) rfl rfl w.heap.size _ rfl rfl H4_9 (by kernel_rfl) (by kernel_rfl) (by kernel_rfl) HS9 (Nat.le_refl _) ?_)
  intro w10 H8a HO10 HS10 hs10
  have H6_10 := Kp.mk ((HO10.out _ (by omega)).trans H6_9.out)
  go_wp2_with (with_reducible refine st_blk (w0 := w) (base := w.heap.size) rfl 38 (.tmp 6) (.tmp 58) rfl rfl (w.heap.size + 1) _ rfl rfl H6_10 (by kernel_rfl) (by kernel_rfl) (by kernel_rfl) HS10 (Nat.le_succ _) ?_)
  intro w11 H9b HO11 HS11 hs11
  have H8b := Kp.mk ((HO11.out _ (by omega)).trans H8a.out)
  go_wp2
  refine bodyPost_ret (results_ctc rfl _ _ w.heap.size (w.heap.size + 1) 28 38 _ _ (0, 0) (0, 0) _ _ rfl H8b.out Tryz.underlying28 rfl (by kernel_rfl) rfl H9b.out Tryz.underlying38 rfl (by kernel_rfl)) rfl ?_
  exact ⟨.slice none 0 0, rfl, Kd.R_nil _ _ _ _ _, HS11.out⟩
theorem rread_e (A : Option Addr) (c : Nat) (xs : List Int) (a : Int) (w : World) (h : (Kd.int .u8).C w A xs.length xs) (hc : xs.length ≤ c) (hx : Byts xs) (hl : xs.length ≤ 1000000) (qn : L) (qt qc tn : Int) (hq : quR xs a = (⟨qn, qt, qc⟩, tn, .none)) (t0 : 0 ≤ tn) (t1 : tn ≤ xs.length) (v4 : Int) (hu : partE xs.length tn 4 = .none) (hv4 : numV xs tn 4 = v4) (vn : Int) (hn : partE xs.length (tn + 4) 2 = .none) (hvn : numV xs (tn + 4) 2 = vn) (n0 : 0 ≤ vn) (n1 : vn ≤ 65535) (t2 : tn + 6 ≤ xs.length) (hs : ¬ (xs.length : Int) - tn - 6 < vn) (rn : L) (rt rc rl : Int) (v6 : Bool) (b : Nat → Int) (rtg : L) (rd : List Int) (er : Er) (her : er.num ≠ 0) (hd : ∀ W, (Kd.int .u8).C W A xs.length xs → Calls Tryz.prog 47 #[.slice A xs.length c, .agg #[.string (mkB qn), .int .i64 qt, .int .i64 qc, .int .u32 v4, .bool false, .int .u8 0, .int .u8 0, .int .u8 0, .int .u8 0, .int .u8 0, .int .u8 0, .int .u8 0, .int .u8 0, .int .u8 0, .int .u8 0, .int .u8 0, .int .u8 0, .int .u8 0, .int .u8 0, .int .u8 0, .int .u8 0, .string ⟨#[]⟩, .slice none 0 0], .int .i64 (tn + 6), .int .i64 vn] W (DataPost (⟨rn, rt, rc, rl, ⟨v6, b⟩, rtg, rd⟩) (er) W)) :
    Calls Tryz.prog 14 #[.slice A xs.length c, .int .i64 a] w (RRPost Rec.zero 0 er w) := by
  obtain ⟨f1, f2, f3, hV, hnz⟩ := fail_gen er
  have bnz : (f1 != 0) = true := by rw [hnz]; simpa using her
  have HV := Kp.mk hV
  clear hV hnz her
  have HQ : Kp (∀ W, (Kd.int .u8).C W A xs.length xs → Calls Tryz.prog 12 #[.slice A xs.length c, .int .i64 a] W fun e w' => e = .returned (.tuple #[.agg #[.string (mkB qn), .int .i64 qt, .int .i64 qc], .int .i64 tn, .agg #[.int .i64 0, .int .i64 0, .bool false]]) ∧ Below W.heap.size W w') := ⟨fun W hW => rqu_calls A c xs a W ⟨qn, qt, qc⟩ tn .none hW hc hx hl hq⟩
  have HU : Kp (∀ W, (Kd.int .u8).C W A xs.length xs → Calls Tryz.prog 46 #[.slice A xs.length c, .int .i64 (tn)] W fun e w' => e = .returned (.tuple #[.int .u32 v4, .agg #[.int .i64 0, .int .i64 0, .bool false]]) ∧ Below W.heap.size W w') := ⟨fun W hW => by have := ru32_calls A c xs (tn) W hW hc hx hl (by omega); rw [hu, hv4] at this; exact this⟩
  have HN : Kp (∀ W, (Kd.int .u8).C W A xs.length xs → Calls Tryz.prog 43 #[.slice A xs.length c, .int .i64 (tn + 4)] W fun e w' => e = .returned (.tuple #[.int .i64 vn, .agg #[.int .i64 0, .int .i64 0, .bool false]]) ∧ Below W.heap.size W w') := ⟨fun W hW => by have := ru16_calls A c xs (tn + 4) W hW hc hx hl (by omega); rw [hn, hvn] at this; exact this⟩
  have wt4 : wrap64 (tn + 4) = tn + 4 := by unfold wrap64; omega
  have HD := Kp.mk hd
  clear hd
  have wd1 : wrap64 ((xs.length : Int) - tn) = (xs.length : Int) - tn := by unfold wrap64; omega
  have wd2 : wrap64 ((xs.length : Int) - tn - 6) = (xs.length : Int) - tn - 6 := by unfold wrap64; omega
  have bs : decide ((xs.length : Int) - tn - 6 < vn) = false := by simpa using hs
  have wt6 : wrap64 (tn + 6) = tn + 6 := by unfold wrap64; omega
  clear hq hu hv4 hn hvn t0 t1 n0 n1 t2 hs
  have HC := Kp.mk h
  have HX := Kp.mk hx
  have HB1 := Kp.mk ((Below.refl w.heap.size w).alloc (Nat.le_refl _) (.cells #[.string ⟨#[]⟩, .int .i64 0, .int .i64 0, .int .u32 0, .bool false, .int .u8 0, .int .u8 0, .int .u8 0, .int .u8 0, .int .u8 0, .int .u8 0, .int .u8 0, .int .u8 0, .int .u8 0, .int .u8 0, .int .u8 0, .int .u8 0, .int .u8 0, .int .u8 0, .int .u8 0, .int .u8 0, .string ⟨#[]⟩, .slice none 0 0] 28))
  have HS0 := Kp.mk (HB1.out.alloc HB1.out.size (.cells #[.int .i64 0, .int .i64 0, .bool false] 38))
  have e1 : w.heap.size + 1 = (w.alloc (.cells #[.string ⟨#[]⟩, .int .i64 0, .int .i64 0, .int .u32 0, .bool false, .int .u8 0, .int .u8 0, .int .u8 0, .int .u8 0, .int .u8 0, .int .u8 0, .int .u8 0, .int .u8 0, .int .u8 0, .int .u8 0, .int .u8 0, .int .u8 0, .int .u8 0, .int .u8 0, .int .u8 0, .int .u8 0, .string ⟨#[]⟩, .slice none 0 0] 28)).heap.size := by simp
  have g1 := heap_new w (.cells #[.string ⟨#[]⟩, .int .i64 0, .int .i64 0, .int .u32 0, .bool false, .int .u8 0, .int .u8 0, .int .u8 0, .int .u8 0, .int .u8 0, .int .u8 0, .int .u8 0, .int .u8 0, .int .u8 0, .int .u8 0, .int .u8 0, .int .u8 0, .int .u8 0, .int .u8 0, .int .u8 0, .int .u8 0, .string ⟨#[]⟩, .slice none 0 0] 28)
  have g2 := heap_new (w.alloc (.cells #[.string ⟨#[]⟩, .int .i64 0, .int .i64 0, .int .u32 0, .bool false, .int .u8 0, .int .u8 0, .int .u8 0, .int .u8 0, .int .u8 0, .int .u8 0, .int .u8 0, .int .u8 0, .int .u8 0, .int .u8 0, .int .u8 0, .int .u8 0, .int .u8 0, .int .u8 0, .int .u8 0, .int .u8 0, .string ⟨#[]⟩, .slice none 0 0] 28)) (.cells #[.int .i64 0, .int .i64 0, .bool false] 38)
  have k2 := (((Below.refl _ _).alloc (Nat.le_refl _) (.cells #[.int .i64 0, .int .i64 0, .bool false] 38)).block _ (heap_lt g1)).trans g1
  rw [← e1] at g2
  have H4_0 := Kp.mk k2
  have H6_0 := Kp.mk g2
  have HC0 := Kp.mk (Kd.C_below HC.out HS0.out)
  clear g1 g2 k2 e1 HB1 h hx
  go_enter Tryz.func14, Tryz.ntmps14
  go_wp2_with (fail)
  refine t_ (HQ.out _ HC0.out) HS0 ?_
  intro w1 HB1 HS1
  have H4_1 := Kp.mk ((HB1.out.block _ (heap_lt H4_0.out)).trans H4_0.out)
  have H6_1 := Kp.mk ((HB1.out.block _ (heap_lt H6_0.out)).trans H6_0.out)
  have HA1 := Kp.mk ((Below.refl w1.heap.size w1).alloc (Nat.le_refl _) (.cells #[.string ⟨#[]⟩, .int .i64 0, .int .i64 0] 30))
  have HA2 := Kp.mk (HA1.out.alloc HA1.out.size (.cells #[.int .i64 0, .int .i64 0, .bool false] 38))
  have e1 : w1.heap.size + 1 = (w1.alloc (.cells #[.string ⟨#[]⟩, .int .i64 0, .int .i64 0] 30)).heap.size := by simp
  have g1 := heap_new w1 (.cells #[.string ⟨#[]⟩, .int .i64 0, .int .i64 0] 30)
  have g2 := heap_new (w1.alloc (.cells #[.string ⟨#[]⟩, .int .i64 0, .int .i64 0] 30)) (.cells #[.int .i64 0, .int .i64 0, .bool false] 38)
  have k2 := (((Below.refl _ _).alloc (Nat.le_refl _) (.cells #[.int .i64 0, .int .i64 0, .bool false] 38)).block _ (heap_lt g1)).trans g1
  rw [← e1] at g2
  have H7_2 := Kp.mk k2
  have H9_2 := Kp.mk g2
  have HS2 := Kp.mk (below_step HS1.out HA2.out)
  have H4_2 := Kp.mk ((HA2.out.block _ (heap_lt H4_1.out)).trans H4_1.out)
  have H6_2 := Kp.mk ((HA2.out.block _ (heap_lt H6_1.out)).trans H6_1.out)
  have hz1 := heap_lt H6_1.out
  clear g1 g2 k2 e1 HA1 HA2 H4_0 H6_0 H4_1 H6_1
  go_wp2_with (with_reducible refine st_blk (w0 := w) (base := w.heap.size) rfl 30 (.tmp 7) (.tmp 17) rfl rfl w1.heap.size _ rfl rfl H7_2 (by kernel_rfl) (by kernel_rfl) (by kernel_rfl) HS2 (by omega) ?_)
  intro w3 H7_3 HO3 HS3 hs3
  have H9_3 := Kp.mk ((HO3.out _ (by omega)).trans H9_2.out)
  have H4_3 := Kp.mk ((HO3.out _ (by omega)).trans H4_2.out)
  have H6_3 := Kp.mk ((HO3.out _ (by omega)).trans H6_2.out)
  clear H4_2 H6_2 H9_2 H7_2
  go_wp2_with (with_reducible refine st_blk (w0 := w) (base := w.heap.size) rfl 38 (.tmp 9) (.tmp 19) rfl rfl (w1.heap.size + 1) _ rfl rfl H9_3 (by kernel_rfl) (by kernel_rfl) (by kernel_rfl) HS3 (by omega) ?_)
  intro w4 H9_4 HO4 HS4 hs4
  have H7_4 := Kp.mk ((HO4.out _ (by omega)).trans H7_3.out)
  have H4_4 := Kp.mk ((HO4.out _ (by omega)).trans H4_3.out)
  have H6_4 := Kp.mk ((HO4.out _ (by omega)).trans H6_3.out)
  have HC4 := Kp.mk (Kd.C_below HC.out HS4.out)
  clear H4_3 H6_3 H9_3 H7_3 hs3 hs4 HO3 HO4 HS3
  have d9 := blk_cell H9_4.out 0
  go_wp2_with (fail)
  refine t_ (HU.out _ HC4.out) HS4 ?_
  intro w5 HB5 HS5
  have H4_5 := Kp.mk ((HB5.out.block _ (heap_lt H4_4.out)).trans H4_4.out)
  have H6_5 := Kp.mk ((HB5.out.block _ (heap_lt H6_4.out)).trans H6_4.out)
  have H7_5 := Kp.mk ((HB5.out.block _ (heap_lt H7_4.out)).trans H7_4.out)
  have H9_5 := Kp.mk ((HB5.out.block _ (heap_lt H9_4.out)).trans H9_4.out)
  clear H4_4 H6_4 H7_4 H9_4 d9
  go_wp2_with (with_reducible refine st_blk (w0 := w) (base := w.heap.size) rfl 38 (.tmp 9) (.tmp 30) rfl rfl (w1.heap.size + 1) _ rfl rfl H9_5 (by kernel_rfl) (by kernel_rfl) (by kernel_rfl) HS5 (by omega) ?_)
  intro w6 H9_6 HO6 HS6 hs6
  have H4_6 := Kp.mk ((HO6.out _ (by omega)).trans H4_5.out)
  have H6_6 := Kp.mk ((HO6.out _ (by omega)).trans H6_5.out)
  have H7_6 := Kp.mk ((HO6.out _ (by omega)).trans H7_5.out)
  have HC6 := Kp.mk (Kd.C_below HC.out HS6.out)
  have d9 := blk_cell H9_6.out 0
  clear H4_5 H6_5 H7_5 H9_5 hs6
  go_wp2_with (fail)
  refine t_ (HN.out _ HC6.out) HS6 ?_
  intro w7 HB7 HS7
  have H4_7 := Kp.mk ((HB7.out.block _ (heap_lt H4_6.out)).trans H4_6.out)
  have H6_7 := Kp.mk ((HB7.out.block _ (heap_lt H6_6.out)).trans H6_6.out)
  have H7_7 := Kp.mk ((HB7.out.block _ (heap_lt H7_6.out)).trans H7_6.out)
  have H9_7 := Kp.mk ((HB7.out.block _ (heap_lt H9_6.out)).trans H9_6.out)
  clear H4_6 H6_6 H7_6 H9_6 d9
  go_wp2_with (with_reducible refine st_blk (w0 := w) (base := w.heap.size) rfl 38 (.tmp 9) (.tmp 42) rfl rfl (w1.heap.size + 1) _ rfl rfl H9_7 (by kernel_rfl) (by kernel_rfl) (by kernel_rfl) HS7 (by omega) ?_)
  intro w8 H9_8 HO8 HS8 hs8
  have H4_8 := Kp.mk ((HO8.out _ (by omega)).trans H4_7.out)
  have H6_8 := Kp.mk ((HO8.out _ (by omega)).trans H6_7.out)
  have H7_8 := Kp.mk ((HO8.out _ (by omega)).trans H7_7.out)
  have HC8 := Kp.mk (Kd.C_below HC.out HS8.out)
  have d9 := blk_cell H9_8.out 0
  clear H4_7 H6_7 H7_7 H9_7 hs8
  have x0 := blk_cell H7_8.out 0
  have x1 := blk_cell H7_8.out 1
  have x2 := blk_cell H7_8.out 2
  go_wp2_with (fail)
  refine (HD.out _ HC8.out).mono ?_
  rintro e w9 ⟨dv, rfl, hR, hb⟩
  try rw [HV.out]
  obtain ⟨A9, c9, rfl⟩ := Kd.R_slice hR
  have HR := Kp.mk hR
  have HB9 := Kp.mk hb
  have HS9 := Kp.mk (below_step HS8.out hb)
  have H4_9 := Kp.mk ((HB9.out.block _ (heap_lt H4_8.out)).trans H4_8.out)
  have H6_9 := Kp.mk ((HB9.out.block _ (heap_lt H6_8.out)).trans H6_8.out)
  have H9_9 := Kp.mk ((HB9.out.block _ (heap_lt H9_8.out)).trans H9_8.out)
  have hz9 := HS9.out.size
  have hz9b := heap_lt H9_9.out
  have hz8 := heap_lt H9_8.out
  have HA9 := Kp.mk ((Below.refl w9.heap.size w9).alloc (Nat.le_refl _) (.cells #[.string ⟨#[]⟩, .int .i64 0, .int .i64 0, .int .u32 0, .bool false, .int .u8 0, .int .u8 0, .int .u8 0, .int .u8 0, .int .u8 0, .int .u8 0, .int .u8 0, .int .u8 0, .int .u8 0, .int .u8 0, .int .u8 0, .int .u8 0, .int .u8 0, .int .u8 0, .int .u8 0, .int .u8 0, .string ⟨#[]⟩, .slice none 0 0] 28))
  have HS9a := Kp.mk (HS9.out.alloc HS9.out.size (.cells #[.string ⟨#[]⟩, .int .i64 0, .int .i64 0, .int .u32 0, .bool false, .int .u8 0, .int .u8 0, .int .u8 0, .int .u8 0, .int .u8 0, .int .u8 0, .int .u8 0, .int .u8 0, .int .u8 0, .int .u8 0, .int .u8 0, .int .u8 0, .int .u8 0, .int .u8 0, .int .u8 0, .int .u8 0, .string ⟨#[]⟩, .slice none 0 0] 28))
  have H4_9a := Kp.mk ((HA9.out.block _ (heap_lt H4_9.out)).trans H4_9.out)
  have H6_9a := Kp.mk ((HA9.out.block _ (heap_lt H6_9.out)).trans H6_9.out)
  have H9_9a := Kp.mk ((HA9.out.block _ (heap_lt H9_9.out)).trans H9_9.out)
  clear hR hb x0 x1 x2 d9 H4_8 H6_8 H7_8 H9_8 H4_9 H6_9 H9_9
  go_wp2_with (with_reducible refine st_blk (w0 := w) (base := w.heap.size) rfl 28 (.tmp 12) (.tmp 73) rfl rfl w9.heap.size _ rfl rfl ⟨heap_new _ _⟩ (by kernel_rfl) (by kernel_rfl) (by kernel_rfl) HS9a hz9 ?_)
  intro w10 H12_10 HO10 HS10 hs10
  have H4_10 := Kp.mk ((HO10.out _ (by omega)).trans H4_9a.out)
  have H6_10 := Kp.mk ((HO10.out _ (by omega)).trans H6_9a.out)
  have H9_10 := Kp.mk ((HO10.out _ (by omega)).trans H9_9a.out)
  have HN10 := Kp.mk (stored_new HS9.out HS10.out hs10 HO10.out)
  clear H4_9a H6_9a H9_9a
  go_wp2_with (with_reducible refine st_blk (w0 := w) (base := w.heap.size) rfl 38 (.tmp 9) (.tmp 74) rfl rfl (w1.heap.size + 1) _ rfl rfl H9_10 (by kernel_rfl) (by kernel_rfl) (by kernel_rfl) HS10 (by omega) ?_)
  intro w11 H9_11 HO11 HS11 hs11
  have H4_11 := Kp.mk ((HO11.out _ (by omega)).trans H4_10.out)
  have H6_11 := Kp.mk ((HO11.out _ (by omega)).trans H6_10.out)
  have H12_11 := Kp.mk ((HO11.out _ (by omega)).trans H12_10.out)
  have d9 := blk_cell H9_11.out 0
  clear H4_10 H6_10 H9_10 hs11
  go_wp2_with (fail)
  refine start_ (n := 5) (S := fun w' => w'.heap[w1.heap.size + 1]? = some (.cells #[.int .i64 f1, .int .i64 f2, .bool f3] 38 (0, 0))) (ds := []) #[false, false, false, false, false] (by kernel_rfl) rfl rfl (H9_11.out) (fun hHeld => ?_)
  refine take_blk (v := .agg #[.int .i64 f1, .int .i64 f2, .bool f3]) (i := 1) (N := some 79) (a' := ?_) #[false, true, false, false, false] rfl rfl (by kernel_rfl) (fun _ _ _ h => h) (by rfl) 38 (.tmp 9) rfl (w1.heap.size + 1) (by rfl) #[.int .i64 f1, .int .i64 f2, .bool f3] rfl (fun _ h => h) Tryz.underlying38 rfl (by kernel_rfl) hHeld ?_ ?_
  rotate_left
  · simp only [Act.put, List.setIfInBounds_toArray, List.set_cons_zero, List.set_cons_succ]
    rfl
  refine pure_ (i := 0) (N := some 78) (v := ?_) (a' := ?_) #[true, true, false, false, false] rfl rfl (by kernel_rfl) (fun _ _ _ h => h) (Or.inl ⟨by rfl, ?_⟩) ?_ ?_
  rotate_left
  · intro w'
    go_simp
    with_reducible rfl
  rotate_left
  · simp only [Act.put, List.setIfInBounds_toArray, List.set_cons_zero, List.set_cons_succ]
    rfl
  refine one_ (i := 2) (N := none) #[true, true, true, false, false] rfl rfl (by kernel_rfl) (by decide) (fun K hK => ?_)
  refine st_step (w0 := w) (base := w.heap.size) (by rfl) 28 (.tmp 4) (.tmp 78) rfl rfl (w.heap.size) _ rfl rfl ⟨H4_11.out⟩ (by kernel_rfl) (by kernel_rfl) (by kernel_rfl) ⟨(HS11.out).drew⟩ (Nat.le_refl _) ?_
  intro w8a H8a HO8a HS8a hs8a
  refine hK.out _ _ ((HO8a.out _ (by omega)).trans hHeld) (fun hHeld => ?_)
  clear hK K
  refine pure_ (i := 3) (N := some 5) (v := ?_) (a' := ?_) #[true, true, true, true, false] rfl rfl (by kernel_rfl) (fun _ _ _ h => h) (Or.inl ⟨by rfl, ?_⟩) ?_ ?_
  rotate_left
  · intro w'
    go_simp
    with_reducible rfl
  rotate_left
  · simp only [Act.put, List.setIfInBounds_toArray, List.set_cons_zero, List.set_cons_succ]
    rfl
  refine one_ (i := 4) (N := none) #[true, true, true, true, true] rfl rfl (by kernel_rfl) (by decide) (fun K hK => ?_)
  refine st_step (w0 := w) (base := w.heap.size) (by rfl) 38 (.tmp 6) (.tmp 79) rfl rfl (w.heap.size + 1) _ rfl rfl ⟨(HO8a.out _ (by omega)).trans (H6_11.out)⟩ (by kernel_rfl) (by kernel_rfl) (by kernel_rfl) HS8a (Nat.le_succ _) ?_
  intro w8b H9b HO9b HS9b hs9b
  refine hK.out _ _ ((HO9b.out _ (by omega)).trans hHeld) (fun hHeld => ?_)
  clear hK K
  have H8b := Kp.mk ((HO9b.out _ (by omega)).trans H8a.out)
  refine done_ (by kernel_rfl) ?_
  go_wp2
  refine bodyPost_ret (results_ctc rfl _ _ w.heap.size (w.heap.size + 1) 28 38 _ _ (0, 0) (0, 0) _ _ rfl H8b.out Tryz.underlying28 rfl (by kernel_rfl) rfl H9b.out Tryz.underlying38 rfl (by kernel_rfl)) rfl ?_
  exact ⟨.slice none 0 0, by rw [HV.out]; rfl, Kd.R_nil _ _ _ _ _, HS9b.out⟩
theorem rread_f (A : Option Addr) (c : Nat) (xs : List Int) (a : Int) (w : World) (h : (Kd.int .u8).C w A xs.length xs) (hc : xs.length ≤ c) (hx : Byts xs) (hl : xs.length ≤ 1000000) (qn : L) (qt qc tn : Int) (hq : quR xs a = (⟨qn, qt, qc⟩, tn, .none)) (t0 : 0 ≤ tn) (t1 : tn ≤ xs.length) (v4 : Int) (hu : partE xs.length tn 4 = .none) (hv4 : numV xs tn 4 = v4) (vn : Int) (hn : partE xs.length (tn + 4) 2 = .none) (hvn : numV xs (tn + 4) 2 = vn) (n0 : 0 ≤ vn) (n1 : vn ≤ 65535) (t2 : tn + 6 ≤ xs.length) (hs : ¬ (xs.length : Int) - tn - 6 < vn) (rn : L) (rt rc rl : Int) (v6 : Bool) (b : Nat → Int) (rtg : L) (rd : List Int) (hd : ∀ W, (Kd.int .u8).C W A xs.length xs → Calls Tryz.prog 47 #[.slice A xs.length c, .agg #[.string (mkB qn), .int .i64 qt, .int .i64 qc, .int .u32 v4, .bool false, .int .u8 0, .int .u8 0, .int .u8 0, .int .u8 0, .int .u8 0, .int .u8 0, .int .u8 0, .int .u8 0, .int .u8 0, .int .u8 0, .int .u8 0, .int .u8 0, .int .u8 0, .int .u8 0, .int .u8 0, .int .u8 0, .string ⟨#[]⟩, .slice none 0 0], .int .i64 (tn + 6), .int .i64 vn] W (DataPost (⟨rn, rt, rc, rl, ⟨v6, b⟩, rtg, rd⟩) (.none) W)) :
    Calls Tryz.prog 14 #[.slice A xs.length c, .int .i64 a] w (RRPost ⟨rn, rt, rc, rl, ⟨v6, b⟩, rtg, rd⟩ (tn + 6 + vn) .none w) := by
  have HQ : Kp (∀ W, (Kd.int .u8).C W A xs.length xs → Calls Tryz.prog 12 #[.slice A xs.length c, .int .i64 a] W fun e w' => e = .returned (.tuple #[.agg #[.string (mkB qn), .int .i64 qt, .int .i64 qc], .int .i64 tn, .agg #[.int .i64 0, .int .i64 0, .bool false]]) ∧ Below W.heap.size W w') := ⟨fun W hW => rqu_calls A c xs a W ⟨qn, qt, qc⟩ tn .none hW hc hx hl hq⟩
  have HU : Kp (∀ W, (Kd.int .u8).C W A xs.length xs → Calls Tryz.prog 46 #[.slice A xs.length c, .int .i64 (tn)] W fun e w' => e = .returned (.tuple #[.int .u32 v4, .agg #[.int .i64 0, .int .i64 0, .bool false]]) ∧ Below W.heap.size W w') := ⟨fun W hW => by have := ru32_calls A c xs (tn) W hW hc hx hl (by omega); rw [hu, hv4] at this; exact this⟩
  have HN : Kp (∀ W, (Kd.int .u8).C W A xs.length xs → Calls Tryz.prog 43 #[.slice A xs.length c, .int .i64 (tn + 4)] W fun e w' => e = .returned (.tuple #[.int .i64 vn, .agg #[.int .i64 0, .int .i64 0, .bool false]]) ∧ Below W.heap.size W w') := ⟨fun W hW => by have := ru16_calls A c xs (tn + 4) W hW hc hx hl (by omega); rw [hn, hvn] at this; exact this⟩
  have wt4 : wrap64 (tn + 4) = tn + 4 := by unfold wrap64; omega
  have HD := Kp.mk hd
  have wt6n : wrap64 (tn + 6 + vn) = tn + 6 + vn := by unfold wrap64; omega
  clear hd
  have HV : Kp (failV .none = .agg #[.int .i64 0, .int .i64 0, .bool false]) := ⟨rfl⟩
  have wd1 : wrap64 ((xs.length : Int) - tn) = (xs.length : Int) - tn := by unfold wrap64; omega
  have wd2 : wrap64 ((xs.length : Int) - tn - 6) = (xs.length : Int) - tn - 6 := by unfold wrap64; omega
  have bs : decide ((xs.length : Int) - tn - 6 < vn) = false := by simpa using hs
  have wt6 : wrap64 (tn + 6) = tn + 6 := by unfold wrap64; omega
  clear hq hu hv4 hn hvn t0 t1 n0 n1 t2 hs
  have HC := Kp.mk h
  have HX := Kp.mk hx
  have HB1 := Kp.mk ((Below.refl w.heap.size w).alloc (Nat.le_refl _) (.cells #[.string ⟨#[]⟩, .int .i64 0, .int .i64 0, .int .u32 0, .bool false, .int .u8 0, .int .u8 0, .int .u8 0, .int .u8 0, .int .u8 0, .int .u8 0, .int .u8 0, .int .u8 0, .int .u8 0, .int .u8 0, .int .u8 0, .int .u8 0, .int .u8 0, .int .u8 0, .int .u8 0, .int .u8 0, .string ⟨#[]⟩, .slice none 0 0] 28))
  have HS0 := Kp.mk (HB1.out.alloc HB1.out.size (.cells #[.int .i64 0, .int .i64 0, .bool false] 38))
  have e1 : w.heap.size + 1 = (w.alloc (.cells #[.string ⟨#[]⟩, .int .i64 0, .int .i64 0, .int .u32 0, .bool false, .int .u8 0, .int .u8 0, .int .u8 0, .int .u8 0, .int .u8 0, .int .u8 0, .int .u8 0, .int .u8 0, .int .u8 0, .int .u8 0, .int .u8 0, .int .u8 0, .int .u8 0, .int .u8 0, .int .u8 0, .int .u8 0, .string ⟨#[]⟩, .slice none 0 0] 28)).heap.size := by simp
  have g1 := heap_new w (.cells #[.string ⟨#[]⟩, .int .i64 0, .int .i64 0, .int .u32 0, .bool false, .int .u8 0, .int .u8 0, .int .u8 0, .int .u8 0, .int .u8 0, .int .u8 0, .int .u8 0, .int .u8 0, .int .u8 0, .int .u8 0, .int .u8 0, .int .u8 0, .int .u8 0, .int .u8 0, .int .u8 0, .int .u8 0, .string ⟨#[]⟩, .slice none 0 0] 28)
  have g2 := heap_new (w.alloc (.cells #[.string ⟨#[]⟩, .int .i64 0, .int .i64 0, .int .u32 0, .bool false, .int .u8 0, .int .u8 0, .int .u8 0, .int .u8 0, .int .u8 0, .int .u8 0, .int .u8 0, .int .u8 0, .int .u8 0, .int .u8 0, .int .u8 0, .int .u8 0, .int .u8 0, .int .u8 0, .int .u8 0, .int .u8 0, .string ⟨#[]⟩, .slice none 0 0] 28)) (.cells #[.int .i64 0, .int .i64 0, .bool false] 38)
  have k2 := (((Below.refl _ _).alloc (Nat.le_refl _) (.cells #[.int .i64 0, .int .i64 0, .bool false] 38)).block _ (heap_lt g1)).trans g1
  rw [← e1] at g2
  have H4_0 := Kp.mk k2
  have H6_0 := Kp.mk g2
  have HC0 := Kp.mk (Kd.C_below HC.out HS0.out)
  clear g1 g2 k2 e1 HB1 h hx
  go_enter Tryz.func14, Tryz.ntmps14
  go_wp2_with (fail)
  refine t_ (HQ.out _ HC0.out) HS0 ?_
  intro w1 HB1 HS1
  have H4_1 := Kp.mk ((HB1.out.block _ (heap_lt H4_0.out)).trans H4_0.out)
  have H6_1 := Kp.mk ((HB1.out.block _ (heap_lt H6_0.out)).trans H6_0.out)
  have HA1 := Kp.mk ((Below.refl w1.heap.size w1).alloc (Nat.le_refl _) (.cells #[.string ⟨#[]⟩, .int .i64 0, .int .i64 0] 30))
  have HA2 := Kp.mk (HA1.out.alloc HA1.out.size (.cells #[.int .i64 0, .int .i64 0, .bool false] 38))
  have e1 : w1.heap.size + 1 = (w1.alloc (.cells #[.string ⟨#[]⟩, .int .i64 0, .int .i64 0] 30)).heap.size := by simp
  have g1 := heap_new w1 (.cells #[.string ⟨#[]⟩, .int .i64 0, .int .i64 0] 30)
  have g2 := heap_new (w1.alloc (.cells #[.string ⟨#[]⟩, .int .i64 0, .int .i64 0] 30)) (.cells #[.int .i64 0, .int .i64 0, .bool false] 38)
  have k2 := (((Below.refl _ _).alloc (Nat.le_refl _) (.cells #[.int .i64 0, .int .i64 0, .bool false] 38)).block _ (heap_lt g1)).trans g1
  rw [← e1] at g2
  have H7_2 := Kp.mk k2
  have H9_2 := Kp.mk g2
  have HS2 := Kp.mk (below_step HS1.out HA2.out)
  have H4_2 := Kp.mk ((HA2.out.block _ (heap_lt H4_1.out)).trans H4_1.out)
  have H6_2 := Kp.mk ((HA2.out.block _ (heap_lt H6_1.out)).trans H6_1.out)
  have hz1 := heap_lt H6_1.out
  clear g1 g2 k2 e1 HA1 HA2 H4_0 H6_0 H4_1 H6_1
  go_wp2_with (with_reducible refine st_blk (w0 := w) (base := w.heap.size) rfl 30 (.tmp 7) (.tmp 17) rfl rfl w1.heap.size _ rfl rfl H7_2 (by kernel_rfl) (by kernel_rfl) (by kernel_rfl) HS2 (by omega) ?_)
  intro w3 H7_3 HO3 HS3 hs3
  have H9_3 := Kp.mk ((HO3.out _ (by omega)).trans H9_2.out)
  have H4_3 := Kp.mk ((HO3.out _ (by omega)).trans H4_2.out)
  have H6_3 := Kp.mk ((HO3.out _ (by omega)).trans H6_2.out)
  clear H4_2 H6_2 H9_2 H7_2
  go_wp2_with (with_reducible refine st_blk (w0 := w) (base := w.heap.size) rfl 38 (.tmp 9) (.tmp 19) rfl rfl (w1.heap.size + 1) _ rfl rfl H9_3 (by kernel_rfl) (by kernel_rfl) (by kernel_rfl) HS3 (by omega) ?_)
  intro w4 H9_4 HO4 HS4 hs4
  have H7_4 := Kp.mk ((HO4.out _ (by omega)).trans H7_3.out)
  have H4_4 := Kp.mk ((HO4.out _ (by omega)).trans H4_3.out)
  have H6_4 := Kp.mk ((HO4.out _ (by omega)).trans H6_3.out)
  have HC4 := Kp.mk (Kd.C_below HC.out HS4.out)
  clear H4_3 H6_3 H9_3 H7_3 hs3 hs4 HO3 HO4 HS3
  have d9 := blk_cell H9_4.out 0
  go_wp2_with (fail)
  refine t_ (HU.out _ HC4.out) HS4 ?_
  intro w5 HB5 HS5
  have H4_5 := Kp.mk ((HB5.out.block _ (heap_lt H4_4.out)).trans H4_4.out)
  have H6_5 := Kp.mk ((HB5.out.block _ (heap_lt H6_4.out)).trans H6_4.out)
  have H7_5 := Kp.mk ((HB5.out.block _ (heap_lt H7_4.out)).trans H7_4.out)
  have H9_5 := Kp.mk ((HB5.out.block _ (heap_lt H9_4.out)).trans H9_4.out)
  clear H4_4 H6_4 H7_4 H9_4 d9
  go_wp2_with (with_reducible refine st_blk (w0 := w) (base := w.heap.size) rfl 38 (.tmp 9) (.tmp 30) rfl rfl (w1.heap.size + 1) _ rfl rfl H9_5 (by kernel_rfl) (by kernel_rfl) (by kernel_rfl) HS5 (by omega) ?_)
  intro w6 H9_6 HO6 HS6 hs6
  have H4_6 := Kp.mk ((HO6.out _ (by omega)).trans H4_5.out)
  have H6_6 := Kp.mk ((HO6.out _ (by omega)).trans H6_5.out)
  have H7_6 := Kp.mk ((HO6.out _ (by omega)).trans H7_5.out)
  have HC6 := Kp.mk (Kd.C_below HC.out HS6.out)
  have d9 := blk_cell H9_6.out 0
  clear H4_5 H6_5 H7_5 H9_5 hs6
  go_wp2_with (fail)
  refine t_ (HN.out _ HC6.out) HS6 ?_
  intro w7 HB7 HS7
  have H4_7 := Kp.mk ((HB7.out.block _ (heap_lt H4_6.out)).trans H4_6.out)
  have H6_7 := Kp.mk ((HB7.out.block _ (heap_lt H6_6.out)).trans H6_6.out)
  have H7_7 := Kp.mk ((HB7.out.block _ (heap_lt H7_6.out)).trans H7_6.out)
  have H9_7 := Kp.mk ((HB7.out.block _ (heap_lt H9_6.out)).trans H9_6.out)
  clear H4_6 H6_6 H7_6 H9_6 d9
  go_wp2_with (with_reducible refine st_blk (w0 := w) (base := w.heap.size) rfl 38 (.tmp 9) (.tmp 42) rfl rfl (w1.heap.size + 1) _ rfl rfl H9_7 (by kernel_rfl) (by kernel_rfl) (by kernel_rfl) HS7 (by omega) ?_)
  intro w8 H9_8 HO8 HS8 hs8
  have H4_8 := Kp.mk ((HO8.out _ (by omega)).trans H4_7.out)
  have H6_8 := Kp.mk ((HO8.out _ (by omega)).trans H6_7.out)
  have H7_8 := Kp.mk ((HO8.out _ (by omega)).trans H7_7.out)
  have HC8 := Kp.mk (Kd.C_below HC.out HS8.out)
  have d9 := blk_cell H9_8.out 0
  clear H4_7 H6_7 H7_7 H9_7 hs8
  have x0 := blk_cell H7_8.out 0
  have x1 := blk_cell H7_8.out 1
  have x2 := blk_cell H7_8.out 2
  go_wp2_with (fail)
  refine (HD.out _ HC8.out).mono ?_
  rintro e w9 ⟨dv, rfl, hR, hb⟩
  try rw [HV.out]
  obtain ⟨A9, c9, rfl⟩ := Kd.R_slice hR
  have HR := Kp.mk hR
  have HB9 := Kp.mk hb
  have HS9 := Kp.mk (below_step HS8.out hb)
  have H4_9 := Kp.mk ((HB9.out.block _ (heap_lt H4_8.out)).trans H4_8.out)
  have H6_9 := Kp.mk ((HB9.out.block _ (heap_lt H6_8.out)).trans H6_8.out)
  have H9_9 := Kp.mk ((HB9.out.block _ (heap_lt H9_8.out)).trans H9_8.out)
  have hz9 := HS9.out.size
  have hz9b := heap_lt H9_9.out
  have hz8 := heap_lt H9_8.out
  have HA9 := Kp.mk ((Below.refl w9.heap.size w9).alloc (Nat.le_refl _) (.cells #[.string ⟨#[]⟩, .int .i64 0, .int .i64 0, .int .u32 0, .bool false, .int .u8 0, .int .u8 0, .int .u8 0, .int .u8 0, .int .u8 0, .int .u8 0, .int .u8 0, .int .u8 0, .int .u8 0, .int .u8 0, .int .u8 0, .int .u8 0, .int .u8 0, .int .u8 0, .int .u8 0, .int .u8 0, .string ⟨#[]⟩, .slice none 0 0] 28))
  have HS9a := Kp.mk (HS9.out.alloc HS9.out.size (.cells #[.string ⟨#[]⟩, .int .i64 0, .int .i64 0, .int .u32 0, .bool false, .int .u8 0, .int .u8 0, .int .u8 0, .int .u8 0, .int .u8 0, .int .u8 0, .int .u8 0, .int .u8 0, .int .u8 0, .int .u8 0, .int .u8 0, .int .u8 0, .int .u8 0, .int .u8 0, .int .u8 0, .int .u8 0, .string ⟨#[]⟩, .slice none 0 0] 28))
  have H4_9a := Kp.mk ((HA9.out.block _ (heap_lt H4_9.out)).trans H4_9.out)
  have H6_9a := Kp.mk ((HA9.out.block _ (heap_lt H6_9.out)).trans H6_9.out)
  have H9_9a := Kp.mk ((HA9.out.block _ (heap_lt H9_9.out)).trans H9_9.out)
  clear hR hb x0 x1 x2 d9 H4_8 H6_8 H7_8 H9_8 H4_9 H6_9 H9_9
  go_wp2_with (with_reducible refine st_blk (w0 := w) (base := w.heap.size) rfl 28 (.tmp 12) (.tmp 73) rfl rfl w9.heap.size _ rfl rfl ⟨heap_new _ _⟩ (by kernel_rfl) (by kernel_rfl) (by kernel_rfl) HS9a hz9 ?_)
  intro w10 H12_10 HO10 HS10 hs10
  have H4_10 := Kp.mk ((HO10.out _ (by omega)).trans H4_9a.out)
  have H6_10 := Kp.mk ((HO10.out _ (by omega)).trans H6_9a.out)
  have H9_10 := Kp.mk ((HO10.out _ (by omega)).trans H9_9a.out)
  have HN10 := Kp.mk (stored_new HS9.out HS10.out hs10 HO10.out)
  clear H4_9a H6_9a H9_9a
  go_wp2_with (with_reducible refine st_blk (w0 := w) (base := w.heap.size) rfl 38 (.tmp 9) (.tmp 74) rfl rfl (w1.heap.size + 1) _ rfl rfl H9_10 (by kernel_rfl) (by kernel_rfl) (by kernel_rfl) HS10 (by omega) ?_)
  intro w11 H9_11 HO11 HS11 hs11
  have H4_11 := Kp.mk ((HO11.out _ (by omega)).trans H4_10.out)
  have H6_11 := Kp.mk ((HO11.out _ (by omega)).trans H6_10.out)
  have H12_11 := Kp.mk ((HO11.out _ (by omega)).trans H12_10.out)
  have d9 := blk_cell H9_11.out 0
  clear H4_10 H6_10 H9_10 hs11
  go_wp2_with (fail)
  refine start_ (n := 9) (S := fun w' => w'.heap[w9.heap.size]? = some (.cells #[.string (mkB rn), .int .i64 rt, .int .i64 rc, .int .u32 rl, .bool v6, .int .u8 (b 0), .int .u8 (b 1), .int .u8 (b 2), .int .u8 (b 3), .int .u8 (b 4), .int .u8 (b 5), .int .u8 (b 6), .int .u8 (b 7), .int .u8 (b 8), .int .u8 (b 9), .int .u8 (b 10), .int .u8 (b 11), .int .u8 (b 12), .int .u8 (b 13), .int .u8 (b 14), .int .u8 (b 15), .string (mkB rtg), .slice A9 rd.length c9] 28 (0, 0)) ∧ w'.heap[w1.heap.size + 1]? = some (.cells #[.int .i64 0, .int .i64 0, .bool false] 38 (0, 0))) (ds := []) #[false, false, false, false, false, false, false, false, false] (by kernel_rfl) rfl rfl ⟨H12_11.out, H9_11.out⟩ (fun hHeld => ?_)
  refine take_blk (v := .agg #[.string (mkB rn), .int .i64 rt, .int .i64 rc, .int .u32 rl, .bool v6, .int .u8 (b 0), .int .u8 (b 1), .int .u8 (b 2), .int .u8 (b 3), .int .u8 (b 4), .int .u8 (b 5), .int .u8 (b 6), .int .u8 (b 7), .int .u8 (b 8), .int .u8 (b 9), .int .u8 (b 10), .int .u8 (b 11), .int .u8 (b 12), .int .u8 (b 13), .int .u8 (b 14), .int .u8 (b 15), .string (mkB rtg), .slice A9 rd.length c9]) (i := 0) (N := some 80) (a' := ?_) #[true, false, false, false, false, false, false, false, false] rfl rfl (by kernel_rfl) (fun _ _ _ h => h) (by rfl) 28 (.tmp 12) rfl (w9.heap.size) (by rfl) #[.string (mkB rn), .int .i64 rt, .int .i64 rc, .int .u32 rl, .bool v6, .int .u8 (b 0), .int .u8 (b 1), .int .u8 (b 2), .int .u8 (b 3), .int .u8 (b 4), .int .u8 (b 5), .int .u8 (b 6), .int .u8 (b 7), .int .u8 (b 8), .int .u8 (b 9), .int .u8 (b 10), .int .u8 (b 11), .int .u8 (b 12), .int .u8 (b 13), .int .u8 (b 14), .int .u8 (b 15), .string (mkB rtg), .slice A9 rd.length c9] rfl (fun _ h => h.1) Tryz.underlying28 rfl (by kernel_rfl) hHeld ?_ ?_
  rotate_left
  · simp only [Act.put, List.setIfInBounds_toArray, List.set_cons_zero, List.set_cons_succ]
    rfl
  refine pure_ (i := 1) (N := some 81) (v := ?_) (a' := ?_) #[true, true, false, false, false, false, false, false, false] rfl rfl (by kernel_rfl) (fun _ _ _ h => h) (Or.inl ⟨by rfl, ?_⟩) ?_ ?_
  rotate_left
  · intro w'
    go_simp
    with_reducible rfl
  rotate_left
  · simp only [Act.put, List.setIfInBounds_toArray, List.set_cons_zero, List.set_cons_succ]
    rfl
  refine pure_ (i := 2) (N := some 82) (v := ?_) (a' := ?_) #[true, true, true, false, false, false, false, false, false] rfl rfl (by kernel_rfl) (fun _ _ _ h => h) (Or.inl ⟨by rfl, ?_⟩) ?_ ?_
  rotate_left
  · intro w'
    go_simp
    with_reducible rfl
  rotate_left
  · simp only [Act.put, List.setIfInBounds_toArray, List.set_cons_zero, List.set_cons_succ]
    rfl
  refine pure_ (i := 3) (N := some 83) (v := ?_) (a' := ?_) #[true, true, true, true, false, false, false, false, false] rfl rfl (by kernel_rfl) (fun _ _ _ h => h) (Or.inl ⟨by rfl, ?_⟩) ?_ ?_
  rotate_left
  · intro w'
    go_simp
    with_reducible rfl
  rotate_left
  · simp only [Act.put, List.setIfInBounds_toArray, List.set_cons_zero, List.set_cons_succ]
    rfl
  refine pure_ (i := 4) (N := some 84) (v := ?_) (a' := ?_) #[true, true, true, true, true, false, false, false, false] rfl rfl (by kernel_rfl) (fun _ _ _ h => h) (Or.inl ⟨by rfl, ?_⟩) ?_ ?_
  rotate_left
  · intro w'
    go_simp
    with_reducible rfl
  rotate_left
  · simp only [Act.put, List.setIfInBounds_toArray, List.set_cons_zero, List.set_cons_succ]
    rfl
  refine take_blk (v := .agg #[.int .i64 0, .int .i64 0, .bool false]) (i := 5) (N := some 85) (a' := ?_) #[true, true, true, true, true, true, false, false, false] rfl rfl (by kernel_rfl) (fun _ _ _ h => h) (by rfl) 38 (.tmp 9) rfl (w1.heap.size + 1) (by rfl) #[.int .i64 0, .int .i64 0, .bool false] rfl (fun _ h => h.2) Tryz.underlying38 rfl (by kernel_rfl) hHeld ?_ ?_
  rotate_left
  · simp only [Act.put, List.setIfInBounds_toArray, List.set_cons_zero, List.set_cons_succ]
    rfl
  refine one_ (i := 6) (N := none) #[true, true, true, true, true, true, true, false, false] rfl rfl (by kernel_rfl) (by decide) (fun K hK => ?_)
  refine st_step (w0 := w) (base := w.heap.size) (by rfl) 28 (.tmp 4) (.tmp 80) rfl rfl (w.heap.size) _ rfl rfl ⟨H4_11.out⟩ (by kernel_rfl) (by kernel_rfl) (by kernel_rfl) ⟨(HS11.out).drew⟩ (Nat.le_refl _) ?_
  intro w8a H8a HO8a HS8a hs8a
  refine hK.out _ _ ⟨(HO8a.out _ (by omega)).trans hHeld.1, (HO8a.out _ (by omega)).trans hHeld.2⟩ (fun hHeld => ?_)
  clear hK K
  refine pure_ (i := 7) (N := some 5) (v := ?_) (a' := ?_) #[true, true, true, true, true, true, true, true, false] rfl rfl (by kernel_rfl) (fun _ _ _ h => h) (Or.inl ⟨by rfl, ?_⟩) ?_ ?_
  rotate_left
  · intro w'
    go_simp
    with_reducible rfl
  rotate_left
  · simp only [Act.put, List.setIfInBounds_toArray, List.set_cons_zero, List.set_cons_succ]
    rfl
  refine one_ (i := 8) (N := none) #[true, true, true, true, true, true, true, true, true] rfl rfl (by kernel_rfl) (by decide) (fun K hK => ?_)
  refine st_step (w0 := w) (base := w.heap.size) (by rfl) 38 (.tmp 6) (.tmp 85) rfl rfl (w.heap.size + 1) _ rfl rfl ⟨(HO8a.out _ (by omega)).trans H6_11.out⟩ (by kernel_rfl) (by kernel_rfl) (by kernel_rfl) HS8a (Nat.le_succ _) ?_
  intro w8b H9b HO9b HS9b hs9b
  refine hK.out _ _ ⟨(HO9b.out _ (by omega)).trans hHeld.1, (HO9b.out _ (by omega)).trans hHeld.2⟩ (fun hHeld => ?_)
  clear hK K
  have H8b := Kp.mk ((HO9b.out _ (by omega)).trans H8a.out)
  refine done_ (by kernel_rfl) ?_
  go_wp2
  refine bodyPost_ret (results_ctc rfl _ _ w.heap.size (w.heap.size + 1) 28 38 _ _ (0, 0) (0, 0) _ _ rfl H8b.out Tryz.underlying28 rfl (by kernel_rfl) rfl H9b.out Tryz.underlying38 rfl (by kernel_rfl)) rfl ?_
  have hb8 : w.heap.size ≤ w8.heap.size := HS8.out.size
  have hfin := R_stored (R_stored (w := w11.drew) (R_stored (Kd.R_below HR.out HN10.out) (by omega) HO11.out) (by omega) HO8a.out) (by omega) HO9b.out
  refine ⟨_, ?_, Kd.R_lower hfin hb8, HS9b.out⟩
  show Ending.returned (.tuple #[_, .int .i64 (IntKind.i64.wrap (IntKind.i64.wrap (tn + 6) + vn)), _]) = _
  rw [i64_w, i64_w, wt6, wt6n]
  rfl
end Go.Proofs.YtlkneoednkhleaaGreatDoor
