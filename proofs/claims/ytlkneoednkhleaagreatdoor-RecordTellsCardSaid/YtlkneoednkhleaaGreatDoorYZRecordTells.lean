/-
  The law RecordTells: a question, and a record, in any bytes, or why none; any record, and any question, as they are written, or why not: the walk.
-/
import Derived.Test.YtlkneoednkhleaaGreatDoorYZRtI
import Derived.Test.YtlkneoednkhleaaGreatDoorYGy
import Derived.Test.YtlkneoednkhleaaGreatDoorYGs
import Derived.Test.YtlkneoednkhleaaGreatDoorYZSameRec
import Derived.Test.YtlkneoednkhleaaGreatDoorYGw
namespace Go.Proofs.YtlkneoednkhleaaGreatDoor
open Go.RowKit Go.Proofs.YtlkneoednkhleaaGreatDoorW.PrintWords Go.Proofs.YtlkneoednkhleaaGreatDoorW.PrintLast Go.Proofs.YtlkneoednkhleaaGreatDoor.P
set_option linter.unusedVariables false
set_option linter.unusedSimpArgs false
set_option maxRecDepth 100000
set_option maxHeartbeats 4000000

/-- A row of bytes, an error, in the form of the program; in the form of the document. -/
def GivesF (xs : List Int) (v : Value) (w : World) (e : Ending) (w' : World) : Prop :=
  ∃ A c, e = .returned (.tuple #[.slice A xs.length c, v]) ∧ xs.length ≤ c ∧ (Kd.int .u8).C w' A xs.length xs ∧ Below w.heap.size w w'
def GivesE (xs : List Int) (x : Er) (w : World) (e : Ending) (w' : World) : Prop :=
  ∃ A c v, e = .returned (.tuple #[.slice A xs.length c, v]) ∧ xs.length ≤ c ∧ (Kd.int .u8).C w' A xs.length xs ∧ erK.K w' x [v] ∧ Below w.heap.size w w'
theorem givesE {P : Program} {f : FuncId} {args : Array Value} {w : World} {xs : List Int} {x : Er} (h : Calls P f args w (Gives2 bytesK erK xs x w)) : Calls P f args w (GivesE xs x w) :=
  h.mono fun e w' ⟨v1, v2, he, h1, h2, hb⟩ => by
    obtain ⟨A, c, rfl, hc, hC⟩ := slice_open (bytesK.K_of_M h1)
    exact ⟨A, c, v2, he, hc, hC, erK.K_of_M h2, hb⟩
theorem givesF {P : Program} {f : FuncId} {args : Array Value} {w : World} {xs : List Int} {x : Er} {v : Value} (hv : failV x = v) (h : Calls P f args w (GivesT xs x w)) : Calls P f args w (GivesF xs v w) :=
  h.mono fun e w' ⟨u, he, hR, hb⟩ => by
    obtain ⟨A, c, rfl⟩ := Kd.R_slice hR
    subst hv
    exact ⟨A, c, he, (R_C hR).2, (R_C hR).1, hb⟩
/-- A record that was read: its cells by a letter. -/
def ReadE (r : Rec) (n : Int) (x : Er) (w : World) (e : Ending) (w' : World) : Prop :=
  ∃ A c v, e = .returned (.tuple #[.agg (recA r (.slice A r.data.length c)), .int .i64 n, v]) ∧ r.data.length ≤ c ∧ (Kd.int .u8).C w' A r.data.length r.data ∧ erK.K w' x [v] ∧ Below w.heap.size w w'
def ReadF (r : Rec) (n : Int) (v : Value) (w : World) (e : Ending) (w' : World) : Prop :=
  ∃ A c, e = .returned (.tuple #[.agg (recA r (.slice A r.data.length c)), .int .i64 n, v]) ∧ r.data.length ≤ c ∧ (Kd.int .u8).C w' A r.data.length r.data ∧ Below w.heap.size w w'
theorem rec_size (r : Rec) (v : Value) : (recA r v).size = 23 := rfl
theorem rec_one (r : Rec) (A : Option Addr) (n c : Nat) : (recA r (.slice A n c)).all (·.oneCell') = true := by kernel_rfl
theorem sameRecA (r : Rec) (A A' : Option Addr) (c c' : Nat) (w : World) (h : (Kd.int .u8).C w A r.data.length r.data) (hc : r.data.length ≤ c) (h' : (Kd.int .u8).C w A' r.data.length r.data) (hc' : r.data.length ≤ c') :
    Calls Tryz.prog 20 #[.agg (recA r (.slice A r.data.length c)), .agg (recA r (.slice A' r.data.length c'))] w fun e w' => e = .returned (.bool true) ∧ Below w.heap.size w w' := by
  obtain ⟨rn, rt, rc, rl, ⟨v6, b⟩, rtg, rd⟩ := r
  exact sameRec_calls rn rt rc rl v6 b b rtg rd A A' c c' w (eq16_self _) h hc h' hc'
theorem sameBytes (A A' : Option Addr) (c c' : Nat) (xs : List Int) (w : World) (h : (Kd.int .u8).C w A xs.length xs) (hc : xs.length ≤ c) (h' : (Kd.int .u8).C w A' xs.length xs) (hc' : xs.length ≤ c') :
    Calls Tryz.prog 21 #[.slice A xs.length c, .slice A' xs.length c'] w fun e w' => e = .returned (.bool true) ∧ Below w.heap.size w w' :=
  (stockadehelp_Bytes.calls A c xs A' c' xs true _ h hc h' hc' (by simp [stockadehelp_Bytes.f])).mono fun e w' ⟨he, hb⟩ => ⟨he, hb.below⟩
theorem sum3 (a b c x y z : Nat) (h1 : a = x) (h2 : b = y) (h3 : c = z) (h : x + y + z ≤ 1500) : wrap64 ((a : Int) + (b : Int)) = (a : Int) + (b : Int) ∧ wrap64 ((a : Int) + (b : Int) + (c : Int)) = (a : Int) + (b : Int) + (c : Int) ∧ decide ((1500 : Int) < (a : Int) + (b : Int) + (c : Int)) = false := by
  subst h1 h2 h3
  refine ⟨by unfold wrap64; omega, by unfold wrap64; omega, ?_⟩
  have : ¬ ((1500 : Int) < (a : Int) + (b : Int) + (c : Int)) := by omega
  simpa using this
theorem sum3' (a b c x y z : Nat) (h1 : a = x) (h2 : b = y) (h3 : c = z) (hx : x ≤ 140737488355328) (hy : y ≤ 140737488355328) (hz : z ≤ 140737488355328) (h : ¬ x + y + z ≤ 1500) : wrap64 ((a : Int) + (b : Int)) = (a : Int) + (b : Int) ∧ wrap64 ((a : Int) + (b : Int) + (c : Int)) = (a : Int) + (b : Int) + (c : Int) ∧ decide ((1500 : Int) < (a : Int) + (b : Int) + (c : Int)) = true := by
  subst h1 h2 h3
  refine ⟨by unfold wrap64; omega, by unfold wrap64; omega, ?_⟩
  have : ((1500 : Int) < (a : Int) + (b : Int) + (c : Int)) := by omega
  simpa using this
theorem writes_rec (r : Rec) (A : Option Addr) (c : Nat) (hc : r.data.length ≤ c) (hn : r.name.length ≤ 1500) (ht : r.tgt.length ≤ 1500) (hd : r.data.length ≤ 1500) (hl : 0 ≤ r.ttl ∧ r.ttl ≤ 4294967295) : ∃ (ws : List Int) (we : Er) (f1 f2 : Int) (f3 : Bool), failV we = .agg #[.int .i64 f1, .int .i64 f2, .bool f3] ∧ (we = .none ∨ we.num ≠ 0) ∧
    (∀ W, Env W → (Kd.int .u8).C W A r.data.length r.data → Calls Tryz.prog 15 #[.agg (recA r (.slice A r.data.length c))] W (GivesE ws we W)) ∧
    (∀ W, (Kd.int .u8).C W A r.data.length r.data → Calls Tryz.prog 16 #[.agg (recA r (.slice A r.data.length c))] W (GivesF ws (.agg #[.int .i64 f1, .int .i64 f2, .bool f3]) W)) := by
  by_cases h : r.right = true
  · exact ⟨r.wire, .none, 0, 0, false, rfl, .inl rfl, fun W hE hC => givesE (wr_good r A c W hE hC hc h (by omega) (by omega) hl.1 hl.2), fun W hC => givesF rfl (rwr_good r A c W hC hc h (by omega) (by omega) hl.1 hl.2)⟩
  · have h : r.right = false := by simpa using h
    exact ⟨[], .code 1, 1, 0, false, rfl, .inr (by decide), fun W hE hC => givesE (wr_bad r A c W hE (by omega) (by omega) (by omega) h), fun W hC => givesF rfl (rwr_bad r A c W (by omega) (by omega) (by omega) h)⟩
theorem writes_qu (q : Qu) (hn : q.name.length ≤ 1500) : ∃ (ws : List Int) (we : Er) (f1 f2 : Int) (f3 : Bool), failV we = .agg #[.int .i64 f1, .int .i64 f2, .bool f3] ∧ (we = .none ∨ we.num ≠ 0) ∧
    (∀ W, Env W → Calls Tryz.prog 17 #[.agg #[.string (mkB q.name), .int .i64 q.typ, .int .i64 q.cls]] W (GivesE ws we W)) ∧
    (∀ W, Calls Tryz.prog 18 #[.agg #[.string (mkB q.name), .int .i64 q.typ, .int .i64 q.cls]] W (GivesF ws (.agg #[.int .i64 f1, .int .i64 f2, .bool f3]) W)) := by
  by_cases h : q.right = true
  · exact ⟨q.wire, .none, 0, 0, false, rfl, .inl rfl, fun W hE => givesE (wq_good q W hE (by omega) h), fun W => givesF rfl (rwq_good q W (by omega) h)⟩
  · have h : q.right = false := by simpa using h
    exact ⟨[], .code 1, 1, 0, false, rfl, .inr (by decide), fun W hE => givesE (wq_bad q W hE (by omega) h), fun W => givesF rfl (rwq_bad q W (by omega) h)⟩
theorem recR_numR (xs : List Int) (a : Int) : (recR xs a).2.2 = .none ∨ (recR xs a).2.2.num ≠ 0 := by
  unfold recR
  split
  · exact quR_numR xs a
  · split
    · exact partE_cases ..
    · dsimp only
      split
      · exact fillR_numR ..
      · exact fillR_numR ..
theorem recordTells_main (w : World) (A0 : Option Addr) (c0 : Nat) (xs : List Int) (hC0 : (Kd.int .u8).C w A0 xs.length xs) (hc0 : xs.length ≤ c0) (hm0 : c0 ≤ 9223372036854775807) (hx : Byts xs) (a : Int) (ha1 : -9223372036854775808 ≤ a) (ha2 : a ≤ 9223372036854775807) (r : Rec) (A : Option Addr) (c : Nat) (hC : (Kd.int .u8).C w A r.data.length r.data) (hc : r.data.length ≤ c) (hw : r.fitR) (q : Qu) (hqf : q.fitR) (hlx : xs.length ≤ 1500) (hld : r.data.length ≤ 1500) (hln : r.name.length + r.tgt.length + q.name.length ≤ 1500) (hlt : True) (hlq : q.name.length ≤ 1500) (hE : Env w) :
    Calls Tryz.prog 3 #[.slice A0 xs.length c0, .int .i64 a, .agg (recA r (.slice A r.data.length c)), .agg #[.string (mkB q.name), .int .i64 q.typ, .int .i64 q.cls]] w fun e w' => e = .returned (.bool true) ∧ Below w.heap.size w w' := by
  have htot := hw.name
  obtain ⟨⟨un, ut, uc⟩, n1, e1, hq1⟩ : ∃ q n e, quR xs a = (q, n, e) := ⟨_, _, _, rfl⟩
  obtain ⟨u, n2, e2, hr1⟩ : ∃ q n e, recR xs a = (q, n, e) := ⟨_, _, _, rfl⟩
  have hne1 := quR_numR xs a
  rw [hq1] at hne1
  have hne2 := recR_numR xs a
  rw [hr1] at hne2
  obtain ⟨f1, f2, f3, hV1, -⟩ := fail_gen e1
  obtain ⟨g1, g2, g3, hV2, -⟩ := fail_gen e2
  obtain ⟨ws, e3, h1, h2, h3, hV3, hne3, hwr1, hwr2⟩ := writes_rec r A c hc (by omega) (by omega) (by omega) hw.fit.ttl
  obtain ⟨us, e4, i1, i2, i3, hV4, hne4, hwq1, hwq2⟩ := writes_qu q (by omega)
  have HQ1 : Kp (∀ W, Env W → (Kd.int .u8).C W A0 xs.length xs → Calls Tryz.prog 11 #[.slice A0 xs.length c0, .int .i64 a] W (QuPost ⟨un, ut, uc⟩ n1 e1 W)) := ⟨fun W hE hC => quRead_calls A0 c0 xs a W ⟨un, ut, uc⟩ n1 e1 hC hx hc0 hm0 hE (by omega) ha2 hq1⟩
  have HQ2 : Kp (∀ W, (Kd.int .u8).C W A0 xs.length xs → Calls Tryz.prog 12 #[.slice A0 xs.length c0, .int .i64 a] W fun e w' => e = .returned (.tuple #[.agg #[.string (mkB un), .int .i64 ut, .int .i64 uc], .int .i64 n1, .agg #[.int .i64 f1, .int .i64 f2, .bool f3]]) ∧ Below W.heap.size W w') := ⟨fun W hC => hV1 ▸ rqu_calls A0 c0 xs a W ⟨un, ut, uc⟩ n1 e1 hC hc0 hx (by omega) hq1⟩
  have HR1 : Kp (∀ W, Env W → (Kd.int .u8).C W A0 xs.length xs → Calls Tryz.prog 13 #[.slice A0 xs.length c0, .int .i64 a] W (ReadE u n2 e2 W)) := ⟨fun W hE hC => (recRead_calls A0 c0 xs a W u n2 e2 hC hx hc0 hm0 hE (by omega) ha2 hr1).mono fun e w' ⟨dv, v, he, hR, hM, hb⟩ => by
      obtain ⟨B, d, rfl⟩ := Kd.R_slice hR
      exact ⟨B, d, v, he, (R_C hR).2, (R_C hR).1, erK.K_of_M hM, hb⟩⟩
  have HR2 : Kp (∀ W, (Kd.int .u8).C W A0 xs.length xs → Calls Tryz.prog 14 #[.slice A0 xs.length c0, .int .i64 a] W (ReadF u n2 (.agg #[.int .i64 g1, .int .i64 g2, .bool g3]) W)) := ⟨fun W hC => (rread_all A0 c0 xs a W u n2 e2 hC hc0 hx (by omega) hr1).mono fun e w' ⟨dv, he, hR, hb⟩ => by
      obtain ⟨B, d, rfl⟩ := Kd.R_slice hR
      exact ⟨B, d, by rw [← hV2]; exact he, (R_C hR).2, (R_C hR).1, hb⟩⟩
  have HI1 : Kp (∀ v W, erK.K W e1 [v] → Env W → Calls Tryz.prog 19 #[v, .agg #[.int .i64 f1, .int .i64 f2, .bool f3]] W fun e w' => e = .returned (.bool true) ∧ Below W.heap.size W w') := ⟨fun v W hv hE => hV1 ▸ same_calls e1 v W hv hE hne1⟩
  have HI2 : Kp (∀ v W, erK.K W e2 [v] → Env W → Calls Tryz.prog 19 #[v, .agg #[.int .i64 g1, .int .i64 g2, .bool g3]] W fun e w' => e = .returned (.bool true) ∧ Below W.heap.size W w') := ⟨fun v W hv hE => hV2 ▸ same_calls e2 v W hv hE hne2⟩
  have HI3 : Kp (∀ v W, erK.K W e3 [v] → Env W → Calls Tryz.prog 19 #[v, .agg #[.int .i64 h1, .int .i64 h2, .bool h3]] W fun e w' => e = .returned (.bool true) ∧ Below W.heap.size W w') := ⟨fun v W hv hE => hV3 ▸ same_calls e3 v W hv hE hne3⟩
  have HI4 : Kp (∀ v W, erK.K W e4 [v] → Env W → Calls Tryz.prog 19 #[v, .agg #[.int .i64 i1, .int .i64 i2, .bool i3]] W fun e w' => e = .returned (.bool true) ∧ Below W.heap.size W w') := ⟨fun v W hv hE => hV4 ▸ same_calls e4 v W hv hE hne4⟩
  have HG1 : Kp (∀ W, Env W → Calls Tryz.prog 22 #[.agg (recA r (.slice A r.data.length c))] W fun e w' => e = .returned (.bool r.right) ∧ Below W.heap.size W w') := ⟨fun W hE => rightRec_calls r A c W hE (by omega) (by omega) (by omega)⟩
  have HG2 : Kp (∀ W, Calls Tryz.prog 23 #[.agg (recA r (.slice A r.data.length c))] W fun e w' => e = .returned (.bool r.right) ∧ Below W.heap.size W w') := ⟨fun W => rrec_right r A c W (by omega) (by omega) (by omega)⟩
  have HW1 := Kp.mk hwr1
  have HW2 := Kp.mk hwr2
  obtain ⟨qn, qt, qc⟩ := q
  have HU1 := Kp.mk hwq1
  have HU2 := Kp.mk hwq2
  dsimp only at hln hlq HU1 HU2
  have hbn : (mkB r.name).size = r.name.length := mkB_size _
  have hbt : (mkB r.tgt).size = r.tgt.length := mkB_size _
  have hbq : (mkB qn).size = qn.length := mkB_size _
  obtain ⟨sq, hsq⟩ : ∃ d, mkB qn = d := ⟨_, rfl⟩
  rw [hsq] at hbq HU1 HU2 ⊢
  obtain ⟨C6, hC6⟩ : ∃ C, recA r (.slice A r.data.length c) = C := ⟨_, rfl⟩
  have z6 : C6.size = 23 := by rw [← hC6]; rfl
  have y6 : (Tryz.prog.info? 28).map (·.size) = some C6.size := by rw [z6]; kernel_rfl
  have x0 : C6[0]? = some (.string (mkB r.name)) := by rw [← hC6]; rfl
  have x21 : C6[21]? = some (.string (mkB r.tgt)) := by rw [← hC6]; rfl
  have x22 : C6[22]? = some (.slice A r.data.length c) := by rw [← hC6]; rfl
  obtain ⟨rr, hrr⟩ : ∃ b, r.right = b := ⟨_, rfl⟩
  rw [hC6] at HG1 HG2 HW1 HW2 ⊢
  rw [hrr] at HG1 HG2
  obtain ⟨rd, hrd⟩ : ∃ d, r.data = d := ⟨_, rfl⟩
  obtain ⟨sn, hsn⟩ : ∃ d, mkB r.name = d := ⟨_, rfl⟩
  obtain ⟨st, hst⟩ : ∃ d, mkB r.tgt = d := ⟨_, rfl⟩
  rw [hrd] at x22 hC hc hld HW1 HW2
  rw [hsn] at x0 hbn
  rw [hst] at x21 hbt
  have b1 : decide ((1500 : Int) < (xs.length : Int)) = false := by simp; omega
  have b2 : decide ((1500 : Int) < (rd.length : Int)) = false := by simp; omega
  obtain ⟨ws1, ws2, b3⟩ := sum3 _ _ _ _ _ _ hbn hbt hbq hln
  have HSx := St.start hE
  have HSy := (HSx.alloc (.cells C6 28)).alloc (.cells #[.string sq, .int .i64 qt, .int .i64 qc] 30)
  obtain ⟨t0, t1, -⟩ := two_new w (.cells C6 28) (.cells #[.string sq, .int .i64 qt, .int .i64 qc] 30)
  have HS_0 := Kp.mk HSy
  have HG6_0 := Kp.mk t0
  have HG7_0 := Kp.mk t1
  have HXC_0 := Kp.mk (Kd.C_below hC0 HSy.below)
  have HDC_0 := Kp.mk (Kd.C_below hC HSy.below)
  have d0 := blk_cell HG6_0.out 0
  have d21 := blk_cell HG6_0.out 21
  have d22 := blk_cell HG6_0.out 22
  have dq := blk_cell HG7_0.out 0
  rw [x0] at d0
  rw [x21] at d21
  rw [x22] at d22
  clear htot hq1 hr1 hne1 hne2 hne3 hne4 hV1 hV2 hV3 hV4 hwr1 hwr2 hwq1 hwq2 hbn hbt hbq hC6 x0 x21 x22 hrr hrd hsn hst hsq HSx HSy t0 t1 hC0 hC hE hw hqf hm0 hx ha1 ha2 hln hlq hld hlt hlx
  go_enter Tryz.func3, Tryz.ntmps3
  go_wp2_with (fail)
  clear d0 d21 d22 dq b1 b2 b3 ws1 ws2
  refine (HQ1.out _ HS_0.out.env HXC_0.out).mono ?_
  rintro e w1 ⟨v1, rfl, hM1, hb1⟩
  have HV1_1 := Kp.mk (erK.K_of_M hM1)
  have HS_1 := Kp.mk (HS_0.out.step hb1)
  have HG6_1 := Kp.mk ((hb1.block _ (heap_lt HG6_0.out)).trans HG6_0.out)
  have HG7_1 := Kp.mk ((hb1.block _ (heap_lt HG7_0.out)).trans HG7_0.out)
  have HXC_1 := Kp.mk (Kd.C_below HXC_0.out hb1)
  have HDC_1 := Kp.mk (Kd.C_below HDC_0.out hb1)
  clear HS_0 HG6_0 HG7_0 HXC_0 HDC_0
  clear hM1 hb1
  have HA2 := Kp.mk ((Below.refl w1.heap.size w1).alloc (Nat.le_refl _) (.cells #[.string ⟨#[]⟩, .int .i64 0, .int .i64 0] 30))
  go_wp2_with (with_reducible refine st_blk (w0 := w1) (base := w1.heap.size) rfl 30 (.tmp 9) (.tmp 57) rfl rfl w1.heap.size _ rfl rfl ⟨heap_new _ _⟩ (by kernel_rfl) (by kernel_rfl) (by kernel_rfl) HA2 (Nat.le_refl _) ?_)
  intro w2 N2_n HO2 HB2 hs2
  clear HA2 HO2 hs2
  have HB := HB2.out
  have HS_2 := Kp.mk (HS_1.out.step HB)
  have HG6_2 := Kp.mk ((HB.block _ (heap_lt HG6_1.out)).trans HG6_1.out)
  have HG7_2 := Kp.mk ((HB.block _ (heap_lt HG7_1.out)).trans HG7_1.out)
  have HXC_2 := Kp.mk (Kd.C_below HXC_1.out HB)
  have HDC_2 := Kp.mk (Kd.C_below HDC_1.out HB)
  have HV1_2 := Kp.mk (erK.K_below HB HV1_1.out)
  clear HS_1 HG6_1 HG7_1 HXC_1 HDC_1 HV1_1
  clear HB HB2
  go_wp2_with (fail)
  refine (HQ2.out _ HXC_2.out).mono ?_
  rintro e w3 ⟨rfl, hb3⟩
  have HS_3 := Kp.mk (HS_2.out.step hb3)
  have HG6_3 := Kp.mk ((hb3.block _ (heap_lt HG6_2.out)).trans HG6_2.out)
  have HG7_3 := Kp.mk ((hb3.block _ (heap_lt HG7_2.out)).trans HG7_2.out)
  have HXC_3 := Kp.mk (Kd.C_below HXC_2.out hb3)
  have HDC_3 := Kp.mk (Kd.C_below HDC_2.out hb3)
  have HV1_3 := Kp.mk (erK.K_below hb3 HV1_2.out)
  have N2_3 := Kp.mk ((hb3.block _ (heap_lt N2_n.out)).trans N2_n.out)
  clear HS_2 HG6_2 HG7_2 HXC_2 HDC_2 HV1_2 N2_n
  clear hb3
  have HA4 := Kp.mk ((Below.refl w3.heap.size w3).alloc (Nat.le_refl _) (.cells #[.string ⟨#[]⟩, .int .i64 0, .int .i64 0] 30))
  have HAb4 := Kp.mk (HA4.out.alloc HA4.out.size (.cells #[.int .i64 0, .int .i64 0, .bool false] 38))
  have e1 : w3.heap.size + 1 = (w3.alloc (.cells #[.string ⟨#[]⟩, .int .i64 0, .int .i64 0] 30)).heap.size := by simp
  have g1 := heap_new w3 (.cells #[.string ⟨#[]⟩, .int .i64 0, .int .i64 0] 30)
  have g2 := heap_new (w3.alloc (.cells #[.string ⟨#[]⟩, .int .i64 0, .int .i64 0] 30)) (.cells #[.int .i64 0, .int .i64 0, .bool false] 38)
  have k2 := (((Below.refl _ _).alloc (Nat.le_refl _) (.cells #[.int .i64 0, .int .i64 0, .bool false] 38)).block _ (heap_lt g1)).trans g1
  rw [← e1] at g2
  have HX4 := Kp.mk k2
  have HY4 := Kp.mk g2
  clear g1 g2 k2 e1 HA4
  go_wp2_with (with_reducible refine st_blk (w0 := w3) (base := w3.heap.size) rfl 30 (.tmp 12) (.tmp 64) rfl rfl w3.heap.size _ rfl rfl HX4 (by kernel_rfl) (by kernel_rfl) (by kernel_rfl) HAb4 (Nat.le_refl _) ?_)
  intro w4a N4a HO4a HB4a hs4a
  have HYa4 := Kp.mk ((HO4a.out _ (by omega)).trans HY4.out)
  clear HX4 HY4 HAb4
  go_wp2_with (with_reducible refine st_blk (w0 := w3) (base := w3.heap.size) rfl 38 (.tmp 14) (.tmp 66) rfl rfl (w3.heap.size + 1) _ rfl rfl HYa4 (by kernel_rfl) (by kernel_rfl) (by kernel_rfl) HB4a (Nat.le_succ _) ?_)
  intro w4 E4_n HO4 HB4 hs4
  have N4_n := Kp.mk ((HO4.out _ (by omega)).trans N4a.out)
  clear N4a HYa4 HO4 HO4a hs4 hs4a HB4a
  have HB := HB4.out
  have HS_4 := Kp.mk (HS_3.out.step HB)
  have HG6_4 := Kp.mk ((HB.block _ (heap_lt HG6_3.out)).trans HG6_3.out)
  have HG7_4 := Kp.mk ((HB.block _ (heap_lt HG7_3.out)).trans HG7_3.out)
  have HXC_4 := Kp.mk (Kd.C_below HXC_3.out HB)
  have HDC_4 := Kp.mk (Kd.C_below HDC_3.out HB)
  have HV1_4 := Kp.mk (erK.K_below HB HV1_3.out)
  have N2_4 := Kp.mk ((HB.block _ (heap_lt N2_3.out)).trans N2_3.out)
  clear HS_3 HG6_3 HG7_3 HXC_3 HDC_3 HV1_3 N2_3
  clear HB HB4
  go_wp2_with (fail)
  refine (HR1.out _ HS_4.out.env HXC_4.out).mono ?_
  rintro e w5 ⟨B5, d5, v5, rfl, hc5, hC5, hv5, hb5⟩
  have HV5_5 := Kp.mk hv5
  have HC5_5 := Kp.mk hC5
  have HS_5 := Kp.mk (HS_4.out.step hb5)
  have HG6_5 := Kp.mk ((hb5.block _ (heap_lt HG6_4.out)).trans HG6_4.out)
  have HG7_5 := Kp.mk ((hb5.block _ (heap_lt HG7_4.out)).trans HG7_4.out)
  have HXC_5 := Kp.mk (Kd.C_below HXC_4.out hb5)
  have HDC_5 := Kp.mk (Kd.C_below HDC_4.out hb5)
  have HV1_5 := Kp.mk (erK.K_below hb5 HV1_4.out)
  have N2_5 := Kp.mk ((hb5.block _ (heap_lt N2_4.out)).trans N2_4.out)
  have N4_5 := Kp.mk ((hb5.block _ (heap_lt N4_n.out)).trans N4_n.out)
  have E4_5 := Kp.mk ((hb5.block _ (heap_lt E4_n.out)).trans E4_n.out)
  clear HS_4 HG6_4 HG7_4 HXC_4 HDC_4 HV1_4 N2_4 N4_n E4_n
  clear hb5 hC5 hv5
  have z15 := rec_size u (.slice B5 u.data.length d5)
  have o15 := rec_one u B5 u.data.length d5
  obtain ⟨C15, hC15⟩ : ∃ C, recA u (.slice B5 u.data.length d5) = C := ⟨_, rfl⟩
  rw [hC15] at z15 o15 ⊢
  have y15 : (Tryz.prog.info? 28).map (·.size) = some C15.size := by rw [z15]; kernel_rfl
  have HE15 := Kp.mk hC15
  have Z15 := Kp.mk z15
  have O15 := Kp.mk o15
  have Y15 := Kp.mk y15
  have hold15 : (#[.string ⟨#[]⟩, .int .i64 0, .int .i64 0, .int .u32 0, .bool false, .int .u8 0, .int .u8 0, .int .u8 0, .int .u8 0, .int .u8 0, .int .u8 0, .int .u8 0, .int .u8 0, .int .u8 0, .int .u8 0, .int .u8 0, .int .u8 0, .int .u8 0, .int .u8 0, .int .u8 0, .int .u8 0, .string ⟨#[]⟩, .slice none 0 0] : Array Value).size = C15.size := by rw [z15]; rfl
  have X15 := Kp.mk hold15
  clear hC15 z15 o15 y15 hold15
  have HA6 := Kp.mk ((Below.refl w5.heap.size w5).alloc (Nat.le_refl _) (.cells #[.string ⟨#[]⟩, .int .i64 0, .int .i64 0, .int .u32 0, .bool false, .int .u8 0, .int .u8 0, .int .u8 0, .int .u8 0, .int .u8 0, .int .u8 0, .int .u8 0, .int .u8 0, .int .u8 0, .int .u8 0, .int .u8 0, .int .u8 0, .int .u8 0, .int .u8 0, .int .u8 0, .int .u8 0, .string ⟨#[]⟩, .slice none 0 0] 28))
  go_wp2_with (with_reducible refine st_blk (w0 := w5) (base := w5.heap.size) rfl 28 (.tmp 15) (.tmp 71) rfl rfl w5.heap.size _ rfl rfl ⟨heap_new _ _⟩ Y15.out X15.out O15.out HA6 (Nat.le_refl _) ?_)
  intro w6 N6_n HO6 HB6 hs6
  clear HA6 HO6 hs6
  have HB := HB6.out
  have HS_6 := Kp.mk (HS_5.out.step HB)
  have HG6_6 := Kp.mk ((HB.block _ (heap_lt HG6_5.out)).trans HG6_5.out)
  have HG7_6 := Kp.mk ((HB.block _ (heap_lt HG7_5.out)).trans HG7_5.out)
  have HXC_6 := Kp.mk (Kd.C_below HXC_5.out HB)
  have HDC_6 := Kp.mk (Kd.C_below HDC_5.out HB)
  have HV1_6 := Kp.mk (erK.K_below HB HV1_5.out)
  have N2_6 := Kp.mk ((HB.block _ (heap_lt N2_5.out)).trans N2_5.out)
  have N4_6 := Kp.mk ((HB.block _ (heap_lt N4_5.out)).trans N4_5.out)
  have E4_6 := Kp.mk ((HB.block _ (heap_lt E4_5.out)).trans E4_5.out)
  have HV5_6 := Kp.mk (erK.K_below HB HV5_5.out)
  have HC5_6 := Kp.mk (Kd.C_below HC5_5.out HB)
  clear HS_5 HG6_5 HG7_5 HXC_5 HDC_5 HV1_5 N2_5 N4_5 E4_5 HV5_5 HC5_5
  clear HB HB6
  go_wp2_with (fail)
  refine (HR2.out _ HXC_6.out).mono ?_
  rintro e w7 ⟨B7, d7, rfl, hc7, hC7, hb7⟩
  have HC7_7 := Kp.mk hC7
  have HS_7 := Kp.mk (HS_6.out.step hb7)
  have HG6_7 := Kp.mk ((hb7.block _ (heap_lt HG6_6.out)).trans HG6_6.out)
  have HG7_7 := Kp.mk ((hb7.block _ (heap_lt HG7_6.out)).trans HG7_6.out)
  have HXC_7 := Kp.mk (Kd.C_below HXC_6.out hb7)
  have HDC_7 := Kp.mk (Kd.C_below HDC_6.out hb7)
  have HV1_7 := Kp.mk (erK.K_below hb7 HV1_6.out)
  have N2_7 := Kp.mk ((hb7.block _ (heap_lt N2_6.out)).trans N2_6.out)
  have N4_7 := Kp.mk ((hb7.block _ (heap_lt N4_6.out)).trans N4_6.out)
  have E4_7 := Kp.mk ((hb7.block _ (heap_lt E4_6.out)).trans E4_6.out)
  have HV5_7 := Kp.mk (erK.K_below hb7 HV5_6.out)
  have HC5_7 := Kp.mk (Kd.C_below HC5_6.out hb7)
  have N6_7 := Kp.mk ((hb7.block _ (heap_lt N6_n.out)).trans N6_n.out)
  clear HS_6 HG6_6 HG7_6 HXC_6 HDC_6 HV1_6 N2_6 N4_6 E4_6 HV5_6 HC5_6 N6_n
  clear hb7 hC7
  have z18 := rec_size u (.slice B7 u.data.length d7)
  have o18 := rec_one u B7 u.data.length d7
  obtain ⟨C18, hC18⟩ : ∃ C, recA u (.slice B7 u.data.length d7) = C := ⟨_, rfl⟩
  rw [hC18] at z18 o18 ⊢
  have y18 : (Tryz.prog.info? 28).map (·.size) = some C18.size := by rw [z18]; kernel_rfl
  have HE18 := Kp.mk hC18
  have Z18 := Kp.mk z18
  have O18 := Kp.mk o18
  have Y18 := Kp.mk y18
  have hold18 : (#[.string ⟨#[]⟩, .int .i64 0, .int .i64 0, .int .u32 0, .bool false, .int .u8 0, .int .u8 0, .int .u8 0, .int .u8 0, .int .u8 0, .int .u8 0, .int .u8 0, .int .u8 0, .int .u8 0, .int .u8 0, .int .u8 0, .int .u8 0, .int .u8 0, .int .u8 0, .int .u8 0, .int .u8 0, .string ⟨#[]⟩, .slice none 0 0] : Array Value).size = C18.size := by rw [z18]; rfl
  have X18 := Kp.mk hold18
  clear hC18 z18 o18 y18 hold18
  have HSR : Kp (∀ W, (Kd.int .u8).C W B5 u.data.length u.data → (Kd.int .u8).C W B7 u.data.length u.data → Calls Tryz.prog 20 #[.agg C15, .agg C18] W fun e w' => e = .returned (.bool true) ∧ Below W.heap.size W w') := ⟨fun W h h' => by have := sameRecA u B5 B7 d5 d7 W h hc5 h' hc7; rw [HE15.out, HE18.out] at this; exact this⟩
  have HA8 := Kp.mk ((Below.refl w7.heap.size w7).alloc (Nat.le_refl _) (.cells #[.string ⟨#[]⟩, .int .i64 0, .int .i64 0, .int .u32 0, .bool false, .int .u8 0, .int .u8 0, .int .u8 0, .int .u8 0, .int .u8 0, .int .u8 0, .int .u8 0, .int .u8 0, .int .u8 0, .int .u8 0, .int .u8 0, .int .u8 0, .int .u8 0, .int .u8 0, .int .u8 0, .int .u8 0, .string ⟨#[]⟩, .slice none 0 0] 28))
  have HAb8 := Kp.mk (HA8.out.alloc HA8.out.size (.cells #[.int .i64 0, .int .i64 0, .bool false] 38))
  have e1 : w7.heap.size + 1 = (w7.alloc (.cells #[.string ⟨#[]⟩, .int .i64 0, .int .i64 0, .int .u32 0, .bool false, .int .u8 0, .int .u8 0, .int .u8 0, .int .u8 0, .int .u8 0, .int .u8 0, .int .u8 0, .int .u8 0, .int .u8 0, .int .u8 0, .int .u8 0, .int .u8 0, .int .u8 0, .int .u8 0, .int .u8 0, .int .u8 0, .string ⟨#[]⟩, .slice none 0 0] 28)).heap.size := by simp
  have g1 := heap_new w7 (.cells #[.string ⟨#[]⟩, .int .i64 0, .int .i64 0, .int .u32 0, .bool false, .int .u8 0, .int .u8 0, .int .u8 0, .int .u8 0, .int .u8 0, .int .u8 0, .int .u8 0, .int .u8 0, .int .u8 0, .int .u8 0, .int .u8 0, .int .u8 0, .int .u8 0, .int .u8 0, .int .u8 0, .int .u8 0, .string ⟨#[]⟩, .slice none 0 0] 28)
  have g2 := heap_new (w7.alloc (.cells #[.string ⟨#[]⟩, .int .i64 0, .int .i64 0, .int .u32 0, .bool false, .int .u8 0, .int .u8 0, .int .u8 0, .int .u8 0, .int .u8 0, .int .u8 0, .int .u8 0, .int .u8 0, .int .u8 0, .int .u8 0, .int .u8 0, .int .u8 0, .int .u8 0, .int .u8 0, .int .u8 0, .int .u8 0, .string ⟨#[]⟩, .slice none 0 0] 28)) (.cells #[.int .i64 0, .int .i64 0, .bool false] 38)
  have k2 := (((Below.refl _ _).alloc (Nat.le_refl _) (.cells #[.int .i64 0, .int .i64 0, .bool false] 38)).block _ (heap_lt g1)).trans g1
  rw [← e1] at g2
  have HX8 := Kp.mk k2
  have HY8 := Kp.mk g2
  clear g1 g2 k2 e1 HA8
  go_wp2_with (with_reducible refine st_blk (w0 := w7) (base := w7.heap.size) rfl 28 (.tmp 18) (.tmp 78) rfl rfl w7.heap.size _ rfl rfl HX8 Y18.out X18.out O18.out HAb8 (Nat.le_refl _) ?_)
  intro w8a N8a HO8a HB8a hs8a
  have HYa8 := Kp.mk ((HO8a.out _ (by omega)).trans HY8.out)
  clear HX8 HY8 HAb8
  go_wp2_with (with_reducible refine st_blk (w0 := w7) (base := w7.heap.size) rfl 38 (.tmp 20) (.tmp 80) rfl rfl (w7.heap.size + 1) _ rfl rfl HYa8 (by kernel_rfl) (by kernel_rfl) (by kernel_rfl) HB8a (Nat.le_succ _) ?_)
  intro w8 E8_n HO8 HB8 hs8
  have N8_n := Kp.mk ((HO8.out _ (by omega)).trans N8a.out)
  clear N8a HYa8 HO8 HO8a hs8 hs8a HB8a
  have HB := HB8.out
  have HS_8 := Kp.mk (HS_7.out.step HB)
  have HG6_8 := Kp.mk ((HB.block _ (heap_lt HG6_7.out)).trans HG6_7.out)
  have HG7_8 := Kp.mk ((HB.block _ (heap_lt HG7_7.out)).trans HG7_7.out)
  have HXC_8 := Kp.mk (Kd.C_below HXC_7.out HB)
  have HDC_8 := Kp.mk (Kd.C_below HDC_7.out HB)
  have HV1_8 := Kp.mk (erK.K_below HB HV1_7.out)
  have N2_8 := Kp.mk ((HB.block _ (heap_lt N2_7.out)).trans N2_7.out)
  have N4_8 := Kp.mk ((HB.block _ (heap_lt N4_7.out)).trans N4_7.out)
  have E4_8 := Kp.mk ((HB.block _ (heap_lt E4_7.out)).trans E4_7.out)
  have HV5_8 := Kp.mk (erK.K_below HB HV5_7.out)
  have HC5_8 := Kp.mk (Kd.C_below HC5_7.out HB)
  have N6_8 := Kp.mk ((HB.block _ (heap_lt N6_7.out)).trans N6_7.out)
  have HC7_8 := Kp.mk (Kd.C_below HC7_7.out HB)
  clear HS_7 HG6_7 HG7_7 HXC_7 HDC_7 HV1_7 N2_7 N4_7 E4_7 HV5_7 HC5_7 N6_7 HC7_7
  clear HB HB8
  have Y6 := Kp.mk y6
  clear y6 z6
  go_wp2_with (with_reducible refine ld_blk rfl 28 (.tmp 6) rfl w.heap.size rfl HG6_8 Tryz.underlying28 rfl Y6.out ?_)
  refine (HW1.out _ HS_8.out.env HDC_8.out).mono ?_
  rintro e w9 ⟨B9, d9, v9, rfl, hc9, hC9, hv9, hb9⟩
  have HV9_9 := Kp.mk hv9
  have HC9_9 := Kp.mk hC9
  have HS_9 := Kp.mk (HS_8.out.step hb9)
  have HG6_9 := Kp.mk ((hb9.block _ (heap_lt HG6_8.out)).trans HG6_8.out)
  have HG7_9 := Kp.mk ((hb9.block _ (heap_lt HG7_8.out)).trans HG7_8.out)
  have HXC_9 := Kp.mk (Kd.C_below HXC_8.out hb9)
  have HDC_9 := Kp.mk (Kd.C_below HDC_8.out hb9)
  have HV1_9 := Kp.mk (erK.K_below hb9 HV1_8.out)
  have N2_9 := Kp.mk ((hb9.block _ (heap_lt N2_8.out)).trans N2_8.out)
  have N4_9 := Kp.mk ((hb9.block _ (heap_lt N4_8.out)).trans N4_8.out)
  have E4_9 := Kp.mk ((hb9.block _ (heap_lt E4_8.out)).trans E4_8.out)
  have HV5_9 := Kp.mk (erK.K_below hb9 HV5_8.out)
  have HC5_9 := Kp.mk (Kd.C_below HC5_8.out hb9)
  have N6_9 := Kp.mk ((hb9.block _ (heap_lt N6_8.out)).trans N6_8.out)
  have HC7_9 := Kp.mk (Kd.C_below HC7_8.out hb9)
  have N8_9 := Kp.mk ((hb9.block _ (heap_lt N8_n.out)).trans N8_n.out)
  have E8_9 := Kp.mk ((hb9.block _ (heap_lt E8_n.out)).trans E8_n.out)
  clear HS_8 HG6_8 HG7_8 HXC_8 HDC_8 HV1_8 N2_8 N4_8 E4_8 HV5_8 HC5_8 N6_8 HC7_8 N8_n E8_n
  clear hb9 hC9 hv9
  go_wp2_with (with_reducible refine ld_blk rfl 28 (.tmp 6) rfl w.heap.size rfl HG6_9 Tryz.underlying28 rfl Y6.out ?_)
  refine (HW2.out _ HDC_9.out).mono ?_
  rintro e w10 ⟨B10, d10, rfl, hc10, hC10, hb10⟩
  have HC10_10 := Kp.mk hC10
  have HS_10 := Kp.mk (HS_9.out.step hb10)
  have HG6_10 := Kp.mk ((hb10.block _ (heap_lt HG6_9.out)).trans HG6_9.out)
  have HG7_10 := Kp.mk ((hb10.block _ (heap_lt HG7_9.out)).trans HG7_9.out)
  have HXC_10 := Kp.mk (Kd.C_below HXC_9.out hb10)
  have HDC_10 := Kp.mk (Kd.C_below HDC_9.out hb10)
  have HV1_10 := Kp.mk (erK.K_below hb10 HV1_9.out)
  have N2_10 := Kp.mk ((hb10.block _ (heap_lt N2_9.out)).trans N2_9.out)
  have N4_10 := Kp.mk ((hb10.block _ (heap_lt N4_9.out)).trans N4_9.out)
  have E4_10 := Kp.mk ((hb10.block _ (heap_lt E4_9.out)).trans E4_9.out)
  have HV5_10 := Kp.mk (erK.K_below hb10 HV5_9.out)
  have HC5_10 := Kp.mk (Kd.C_below HC5_9.out hb10)
  have N6_10 := Kp.mk ((hb10.block _ (heap_lt N6_9.out)).trans N6_9.out)
  have HC7_10 := Kp.mk (Kd.C_below HC7_9.out hb10)
  have N8_10 := Kp.mk ((hb10.block _ (heap_lt N8_9.out)).trans N8_9.out)
  have E8_10 := Kp.mk ((hb10.block _ (heap_lt E8_9.out)).trans E8_9.out)
  have HV9_10 := Kp.mk (erK.K_below hb10 HV9_9.out)
  have HC9_10 := Kp.mk (Kd.C_below HC9_9.out hb10)
  clear HS_9 HG6_9 HG7_9 HXC_9 HDC_9 HV1_9 N2_9 N4_9 E4_9 HV5_9 HC5_9 N6_9 HC7_9 N8_9 E8_9 HV9_9 HC9_9
  clear hb10 hC10
  have HA11 := Kp.mk ((Below.refl w10.heap.size w10).alloc (Nat.le_refl _) (.cells #[.int .i64 0, .int .i64 0, .bool false] 38))
  go_wp2_with (with_reducible refine st_blk (w0 := w10) (base := w10.heap.size) rfl 38 (.tmp 24) (.tmp 90) rfl rfl w10.heap.size _ rfl rfl ⟨heap_new _ _⟩ (by kernel_rfl) (by kernel_rfl) (by kernel_rfl) HA11 (Nat.le_refl _) ?_)
  intro w11 N11_n HO11 HB11 hs11
  clear HA11 HO11 hs11
  have HB := HB11.out
  have HS_11 := Kp.mk (HS_10.out.step HB)
  have HG6_11 := Kp.mk ((HB.block _ (heap_lt HG6_10.out)).trans HG6_10.out)
  have HG7_11 := Kp.mk ((HB.block _ (heap_lt HG7_10.out)).trans HG7_10.out)
  have HXC_11 := Kp.mk (Kd.C_below HXC_10.out HB)
  have HDC_11 := Kp.mk (Kd.C_below HDC_10.out HB)
  have HV1_11 := Kp.mk (erK.K_below HB HV1_10.out)
  have N2_11 := Kp.mk ((HB.block _ (heap_lt N2_10.out)).trans N2_10.out)
  have N4_11 := Kp.mk ((HB.block _ (heap_lt N4_10.out)).trans N4_10.out)
  have E4_11 := Kp.mk ((HB.block _ (heap_lt E4_10.out)).trans E4_10.out)
  have HV5_11 := Kp.mk (erK.K_below HB HV5_10.out)
  have HC5_11 := Kp.mk (Kd.C_below HC5_10.out HB)
  have N6_11 := Kp.mk ((HB.block _ (heap_lt N6_10.out)).trans N6_10.out)
  have HC7_11 := Kp.mk (Kd.C_below HC7_10.out HB)
  have N8_11 := Kp.mk ((HB.block _ (heap_lt N8_10.out)).trans N8_10.out)
  have E8_11 := Kp.mk ((HB.block _ (heap_lt E8_10.out)).trans E8_10.out)
  have HV9_11 := Kp.mk (erK.K_below HB HV9_10.out)
  have HC9_11 := Kp.mk (Kd.C_below HC9_10.out HB)
  have HC10_11 := Kp.mk (Kd.C_below HC10_10.out HB)
  clear HS_10 HG6_10 HG7_10 HXC_10 HDC_10 HV1_10 N2_10 N4_10 E4_10 HV5_10 HC5_10 N6_10 HC7_10 N8_10 E8_10 HV9_10 HC9_10 HC10_10
  clear HB HB11
  go_wp2_with (with_reducible refine ld_blk rfl 30 (.tmp 7) rfl (w.heap.size + 1) rfl HG7_11 Tryz.underlying30 rfl (by kernel_rfl) ?_)
  refine (HU1.out _ HS_11.out.env).mono ?_
  rintro e w12 ⟨B12, d12, v12, rfl, hc12, hC12, hv12, hb12⟩
  have HV12_12 := Kp.mk hv12
  have HC12_12 := Kp.mk hC12
  have HS_12 := Kp.mk (HS_11.out.step hb12)
  have HG6_12 := Kp.mk ((hb12.block _ (heap_lt HG6_11.out)).trans HG6_11.out)
  have HG7_12 := Kp.mk ((hb12.block _ (heap_lt HG7_11.out)).trans HG7_11.out)
  have HXC_12 := Kp.mk (Kd.C_below HXC_11.out hb12)
  have HDC_12 := Kp.mk (Kd.C_below HDC_11.out hb12)
  have HV1_12 := Kp.mk (erK.K_below hb12 HV1_11.out)
  have N2_12 := Kp.mk ((hb12.block _ (heap_lt N2_11.out)).trans N2_11.out)
  have N4_12 := Kp.mk ((hb12.block _ (heap_lt N4_11.out)).trans N4_11.out)
  have E4_12 := Kp.mk ((hb12.block _ (heap_lt E4_11.out)).trans E4_11.out)
  have HV5_12 := Kp.mk (erK.K_below hb12 HV5_11.out)
  have HC5_12 := Kp.mk (Kd.C_below HC5_11.out hb12)
  have N6_12 := Kp.mk ((hb12.block _ (heap_lt N6_11.out)).trans N6_11.out)
  have HC7_12 := Kp.mk (Kd.C_below HC7_11.out hb12)
  have N8_12 := Kp.mk ((hb12.block _ (heap_lt N8_11.out)).trans N8_11.out)
  have E8_12 := Kp.mk ((hb12.block _ (heap_lt E8_11.out)).trans E8_11.out)
  have HV9_12 := Kp.mk (erK.K_below hb12 HV9_11.out)
  have HC9_12 := Kp.mk (Kd.C_below HC9_11.out hb12)
  have HC10_12 := Kp.mk (Kd.C_below HC10_11.out hb12)
  have N11_12 := Kp.mk ((hb12.block _ (heap_lt N11_n.out)).trans N11_n.out)
  clear HS_11 HG6_11 HG7_11 HXC_11 HDC_11 HV1_11 N2_11 N4_11 E4_11 HV5_11 HC5_11 N6_11 HC7_11 N8_11 E8_11 HV9_11 HC9_11 HC10_11 N11_n
  clear hb12 hC12 hv12
  go_wp2_with (with_reducible refine ld_blk rfl 30 (.tmp 7) rfl (w.heap.size + 1) rfl HG7_12 Tryz.underlying30 rfl (by kernel_rfl) ?_)
  refine (HU2.out _).mono ?_
  rintro e w13 ⟨B13, d13, rfl, hc13, hC13, hb13⟩
  have HC13_13 := Kp.mk hC13
  have HS_13 := Kp.mk (HS_12.out.step hb13)
  have HG6_13 := Kp.mk ((hb13.block _ (heap_lt HG6_12.out)).trans HG6_12.out)
  have HG7_13 := Kp.mk ((hb13.block _ (heap_lt HG7_12.out)).trans HG7_12.out)
  have HXC_13 := Kp.mk (Kd.C_below HXC_12.out hb13)
  have HDC_13 := Kp.mk (Kd.C_below HDC_12.out hb13)
  have HV1_13 := Kp.mk (erK.K_below hb13 HV1_12.out)
  have N2_13 := Kp.mk ((hb13.block _ (heap_lt N2_12.out)).trans N2_12.out)
  have N4_13 := Kp.mk ((hb13.block _ (heap_lt N4_12.out)).trans N4_12.out)
  have E4_13 := Kp.mk ((hb13.block _ (heap_lt E4_12.out)).trans E4_12.out)
  have HV5_13 := Kp.mk (erK.K_below hb13 HV5_12.out)
  have HC5_13 := Kp.mk (Kd.C_below HC5_12.out hb13)
  have N6_13 := Kp.mk ((hb13.block _ (heap_lt N6_12.out)).trans N6_12.out)
  have HC7_13 := Kp.mk (Kd.C_below HC7_12.out hb13)
  have N8_13 := Kp.mk ((hb13.block _ (heap_lt N8_12.out)).trans N8_12.out)
  have E8_13 := Kp.mk ((hb13.block _ (heap_lt E8_12.out)).trans E8_12.out)
  have HV9_13 := Kp.mk (erK.K_below hb13 HV9_12.out)
  have HC9_13 := Kp.mk (Kd.C_below HC9_12.out hb13)
  have HC10_13 := Kp.mk (Kd.C_below HC10_12.out hb13)
  have N11_13 := Kp.mk ((hb13.block _ (heap_lt N11_12.out)).trans N11_12.out)
  have HV12_13 := Kp.mk (erK.K_below hb13 HV12_12.out)
  have HC12_13 := Kp.mk (Kd.C_below HC12_12.out hb13)
  clear HS_12 HG6_12 HG7_12 HXC_12 HDC_12 HV1_12 N2_12 N4_12 E4_12 HV5_12 HC5_12 N6_12 HC7_12 N8_12 E8_12 HV9_12 HC9_12 HC10_12 N11_12 HV12_12 HC12_12
  clear hb13 hC13
  have HA14 := Kp.mk ((Below.refl w13.heap.size w13).alloc (Nat.le_refl _) (.cells #[.int .i64 0, .int .i64 0, .bool false] 38))
  go_wp2_with (with_reducible refine st_blk (w0 := w13) (base := w13.heap.size) rfl 38 (.tmp 28) (.tmp 100) rfl rfl w13.heap.size _ rfl rfl ⟨heap_new _ _⟩ (by kernel_rfl) (by kernel_rfl) (by kernel_rfl) HA14 (Nat.le_refl _) ?_)
  intro w14 N14_n HO14 HB14 hs14
  clear HA14 HO14 hs14
  have HB := HB14.out
  have HS_14 := Kp.mk (HS_13.out.step HB)
  have HG6_14 := Kp.mk ((HB.block _ (heap_lt HG6_13.out)).trans HG6_13.out)
  have HG7_14 := Kp.mk ((HB.block _ (heap_lt HG7_13.out)).trans HG7_13.out)
  have HXC_14 := Kp.mk (Kd.C_below HXC_13.out HB)
  have HDC_14 := Kp.mk (Kd.C_below HDC_13.out HB)
  have HV1_14 := Kp.mk (erK.K_below HB HV1_13.out)
  have N2_14 := Kp.mk ((HB.block _ (heap_lt N2_13.out)).trans N2_13.out)
  have N4_14 := Kp.mk ((HB.block _ (heap_lt N4_13.out)).trans N4_13.out)
  have E4_14 := Kp.mk ((HB.block _ (heap_lt E4_13.out)).trans E4_13.out)
  have HV5_14 := Kp.mk (erK.K_below HB HV5_13.out)
  have HC5_14 := Kp.mk (Kd.C_below HC5_13.out HB)
  have N6_14 := Kp.mk ((HB.block _ (heap_lt N6_13.out)).trans N6_13.out)
  have HC7_14 := Kp.mk (Kd.C_below HC7_13.out HB)
  have N8_14 := Kp.mk ((HB.block _ (heap_lt N8_13.out)).trans N8_13.out)
  have E8_14 := Kp.mk ((HB.block _ (heap_lt E8_13.out)).trans E8_13.out)
  have HV9_14 := Kp.mk (erK.K_below HB HV9_13.out)
  have HC9_14 := Kp.mk (Kd.C_below HC9_13.out HB)
  have HC10_14 := Kp.mk (Kd.C_below HC10_13.out HB)
  have N11_14 := Kp.mk ((HB.block _ (heap_lt N11_13.out)).trans N11_13.out)
  have HV12_14 := Kp.mk (erK.K_below HB HV12_13.out)
  have HC12_14 := Kp.mk (Kd.C_below HC12_13.out HB)
  have HC13_14 := Kp.mk (Kd.C_below HC13_13.out HB)
  clear HS_13 HG6_13 HG7_13 HXC_13 HDC_13 HV1_13 N2_13 N4_13 E4_13 HV5_13 HC5_13 N6_13 HC7_13 N8_13 E8_13 HV9_13 HC9_13 HC10_13 N11_13 HV12_13 HC12_13 HC13_13
  clear HB HB14
  go_wp2_with (fail)
  refine start_ (n := 59) (S := fun w' => w'.heap[w.heap.size]? = some (.cells C6 28 (0, 0)) ∧ w'.heap[w1.heap.size]? = some (.cells #[.string (mkB un), .int .i64 ut, .int .i64 uc] 30 (0, 0)) ∧ w'.heap[w3.heap.size]? = some (.cells #[.string (mkB un), .int .i64 ut, .int .i64 uc] 30 (0, 0)) ∧ w'.heap[(w3.heap.size + 1)]? = some (.cells #[.int .i64 f1, .int .i64 f2, .bool f3] 38 (0, 0)) ∧ w'.heap[w5.heap.size]? = some (.cells C15 28 (0, 0)) ∧ w'.heap[w7.heap.size]? = some (.cells C18 28 (0, 0)) ∧ w'.heap[(w7.heap.size + 1)]? = some (.cells #[.int .i64 g1, .int .i64 g2, .bool g3] 38 (0, 0)) ∧ w'.heap[w10.heap.size]? = some (.cells #[.int .i64 h1, .int .i64 h2, .bool h3] 38 (0, 0)) ∧ w'.heap[w13.heap.size]? = some (.cells #[.int .i64 i1, .int .i64 i2, .bool i3] 38 (0, 0))) (ds := []) #[false, false, false, false, false, false, false, false, false, false, false, false, false, false, false, false, false, false, false, false, false, false, false, false, false, false, false, false, false, false, false, false, false, false, false, false, false, false, false, false, false, false, false, false, false, false, false, false, false, false, false, false, false, false, false, false, false, false, false] (by kernel_rfl) rfl rfl ⟨HG6_14.out, N2_14.out, N4_14.out, E4_14.out, N6_14.out, N8_14.out, E8_14.out, N11_14.out, N14_n.out⟩ (fun hHeld => ?_)
  have HB := (below_drew (Below.refl w14.heap.size w14))
  have HS_d := Kp.mk (HS_14.out.step HB)
  have HG6_d := Kp.mk ((HB.block _ (heap_lt HG6_14.out)).trans HG6_14.out)
  have HG7_d := Kp.mk ((HB.block _ (heap_lt HG7_14.out)).trans HG7_14.out)
  have HXC_d := Kp.mk (Kd.C_below HXC_14.out HB)
  have HDC_d := Kp.mk (Kd.C_below HDC_14.out HB)
  have HV1_d := Kp.mk (erK.K_below HB HV1_14.out)
  have N2_d := Kp.mk ((HB.block _ (heap_lt N2_14.out)).trans N2_14.out)
  have N4_d := Kp.mk ((HB.block _ (heap_lt N4_14.out)).trans N4_14.out)
  have E4_d := Kp.mk ((HB.block _ (heap_lt E4_14.out)).trans E4_14.out)
  have HV5_d := Kp.mk (erK.K_below HB HV5_14.out)
  have HC5_d := Kp.mk (Kd.C_below HC5_14.out HB)
  have N6_d := Kp.mk ((HB.block _ (heap_lt N6_14.out)).trans N6_14.out)
  have HC7_d := Kp.mk (Kd.C_below HC7_14.out HB)
  have N8_d := Kp.mk ((HB.block _ (heap_lt N8_14.out)).trans N8_14.out)
  have E8_d := Kp.mk ((HB.block _ (heap_lt E8_14.out)).trans E8_14.out)
  have HV9_d := Kp.mk (erK.K_below HB HV9_14.out)
  have HC9_d := Kp.mk (Kd.C_below HC9_14.out HB)
  have HC10_d := Kp.mk (Kd.C_below HC10_14.out HB)
  have N11_d := Kp.mk ((HB.block _ (heap_lt N11_14.out)).trans N11_14.out)
  have HV12_d := Kp.mk (erK.K_below HB HV12_14.out)
  have HC12_d := Kp.mk (Kd.C_below HC12_14.out HB)
  have HC13_d := Kp.mk (Kd.C_below HC13_14.out HB)
  have N14_d := Kp.mk ((HB.block _ (heap_lt N14_n.out)).trans N14_n.out)
  clear HS_14 HG6_14 HG7_14 HXC_14 HDC_14 HV1_14 N2_14 N4_14 E4_14 HV5_14 HC5_14 N6_14 HC7_14 N8_14 E8_14 HV9_14 HC9_14 HC10_14 N11_14 HV12_14 HC12_14 HC13_14 N14_n
  clear HB
  generalize w14.drew = w15 at *
  refine one_ (i := 0) (N := some 101) #[true, false, false, false, false, false, false, false, false, false, false, false, false, false, false, false, false, false, false, false, false, false, false, false, false, false, false, false, false, false, false, false, false, false, false, false, false, false, false, false, false, false, false, false, false, false, false, false, false, false, false, false, false, false, false, false, false, false, false] rfl rfl (by kernel_rfl) (by decide) (fun K hK => ?_)
  refine goes_ Tryz.func10 (by kernel_rfl) rfl #[] (by rfl) rfl rfl (by (try simp only [List.map_toArray, List.map_cons, List.map_nil]); first | done | rfl) ?_
  with_reducible refine (awake13_calls _ HS_d.out.env).mono ?_
  rintro e w16 ⟨rfl, hb16⟩
  have HS_16 := Kp.mk (HS_d.out.step hb16)
  have HG6_16 := Kp.mk ((hb16.block _ (heap_lt HG6_d.out)).trans HG6_d.out)
  have HG7_16 := Kp.mk ((hb16.block _ (heap_lt HG7_d.out)).trans HG7_d.out)
  have HXC_16 := Kp.mk (Kd.C_below HXC_d.out hb16)
  have HDC_16 := Kp.mk (Kd.C_below HDC_d.out hb16)
  have HV1_16 := Kp.mk (erK.K_below hb16 HV1_d.out)
  have N2_16 := Kp.mk ((hb16.block _ (heap_lt N2_d.out)).trans N2_d.out)
  have N4_16 := Kp.mk ((hb16.block _ (heap_lt N4_d.out)).trans N4_d.out)
  have E4_16 := Kp.mk ((hb16.block _ (heap_lt E4_d.out)).trans E4_d.out)
  have HV5_16 := Kp.mk (erK.K_below hb16 HV5_d.out)
  have HC5_16 := Kp.mk (Kd.C_below HC5_d.out hb16)
  have N6_16 := Kp.mk ((hb16.block _ (heap_lt N6_d.out)).trans N6_d.out)
  have HC7_16 := Kp.mk (Kd.C_below HC7_d.out hb16)
  have N8_16 := Kp.mk ((hb16.block _ (heap_lt N8_d.out)).trans N8_d.out)
  have E8_16 := Kp.mk ((hb16.block _ (heap_lt E8_d.out)).trans E8_d.out)
  have HV9_16 := Kp.mk (erK.K_below hb16 HV9_d.out)
  have HC9_16 := Kp.mk (Kd.C_below HC9_d.out hb16)
  have HC10_16 := Kp.mk (Kd.C_below HC10_d.out hb16)
  have N11_16 := Kp.mk ((hb16.block _ (heap_lt N11_d.out)).trans N11_d.out)
  have HV12_16 := Kp.mk (erK.K_below hb16 HV12_d.out)
  have HC12_16 := Kp.mk (Kd.C_below HC12_d.out hb16)
  have HC13_16 := Kp.mk (Kd.C_below HC13_d.out hb16)
  have N14_16 := Kp.mk ((hb16.block _ (heap_lt N14_d.out)).trans N14_d.out)
  clear HS_d HG6_d HG7_d HXC_d HDC_d HV1_d N2_d N4_d E4_d HV5_d HC5_d N6_d HC7_d N8_d E8_d HV9_d HC9_d HC10_d N11_d HV12_d HC12_d HC13_d N14_d
  refine ⟨_, rfl, ?_⟩
  refine hK.out _ _ ⟨(hb16.block _ (heap_lt (hHeld.1))).trans (hHeld.1), (hb16.block _ (heap_lt (hHeld.2.1))).trans (hHeld.2.1), (hb16.block _ (heap_lt (hHeld.2.2.1))).trans (hHeld.2.2.1), (hb16.block _ (heap_lt (hHeld.2.2.2.1))).trans (hHeld.2.2.2.1), (hb16.block _ (heap_lt (hHeld.2.2.2.2.1))).trans (hHeld.2.2.2.2.1), (hb16.block _ (heap_lt (hHeld.2.2.2.2.2.1))).trans (hHeld.2.2.2.2.2.1), (hb16.block _ (heap_lt (hHeld.2.2.2.2.2.2.1))).trans (hHeld.2.2.2.2.2.2.1), (hb16.block _ (heap_lt (hHeld.2.2.2.2.2.2.2.1))).trans (hHeld.2.2.2.2.2.2.2.1), (hb16.block _ (heap_lt (hHeld.2.2.2.2.2.2.2.2))).trans (hHeld.2.2.2.2.2.2.2.2)⟩ (fun hHeld => ?_)
  clear hK K hb16
  refine norm_ (a' := ?_) ?_ ?_
  rotate_left
  · show Act.put _ (some 101) _ = _
    simp only [Act.put, List.setIfInBounds_toArray, List.set_cons_zero, List.set_cons_succ, i64_w, i32_w]
    rfl
  refine pure_ (i := 1) (N := some 102) (v := ?_) (a' := ?_) #[true, true, false, false, false, false, false, false, false, false, false, false, false, false, false, false, false, false, false, false, false, false, false, false, false, false, false, false, false, false, false, false, false, false, false, false, false, false, false, false, false, false, false, false, false, false, false, false, false, false, false, false, false, false, false, false, false, false, false] rfl rfl (by kernel_rfl) (fun _ _ _ h => h) (Or.inl ⟨by rfl, ?_⟩) ?_ ?_
  rotate_left
  · intro w'
    go_simp
    with_reducible rfl
  rotate_left
  · simp only [Act.put, List.setIfInBounds_toArray, List.set_cons_zero, List.set_cons_succ, i64_w, i32_w]
    rfl
  refine take_blk (v := .agg #[.string (mkB un), .int .i64 ut, .int .i64 uc]) (i := 2) (N := some 103) (a' := ?_) #[true, true, true, false, false, false, false, false, false, false, false, false, false, false, false, false, false, false, false, false, false, false, false, false, false, false, false, false, false, false, false, false, false, false, false, false, false, false, false, false, false, false, false, false, false, false, false, false, false, false, false, false, false, false, false, false, false, false, false] rfl rfl (by kernel_rfl) (fun _ _ _ h => h) (by rfl) 30 (.tmp 9) rfl w1.heap.size (by rfl) #[.string (mkB un), .int .i64 ut, .int .i64 uc] rfl (fun _ h => h.2.1) Tryz.underlying30 rfl (by kernel_rfl) hHeld ?_ ?_
  rotate_left
  · simp only [Act.put, List.setIfInBounds_toArray, List.set_cons_zero, List.set_cons_succ, i64_w, i32_w]
    rfl
  refine take_blk (v := .agg #[.string (mkB un), .int .i64 ut, .int .i64 uc]) (i := 3) (N := some 104) (a' := ?_) #[true, true, true, true, false, false, false, false, false, false, false, false, false, false, false, false, false, false, false, false, false, false, false, false, false, false, false, false, false, false, false, false, false, false, false, false, false, false, false, false, false, false, false, false, false, false, false, false, false, false, false, false, false, false, false, false, false, false, false] rfl rfl (by kernel_rfl) (fun _ _ _ h => h) (by rfl) 30 (.tmp 12) rfl w3.heap.size (by rfl) #[.string (mkB un), .int .i64 ut, .int .i64 uc] rfl (fun _ h => h.2.2.1) Tryz.underlying30 rfl (by kernel_rfl) hHeld ?_ ?_
  rotate_left
  · simp only [Act.put, List.setIfInBounds_toArray, List.set_cons_zero, List.set_cons_succ, i64_w, i32_w]
    rfl
  refine pure_ (i := 4) (N := some 105) (v := ?_) (a' := ?_) #[true, true, true, true, true, false, false, false, false, false, false, false, false, false, false, false, false, false, false, false, false, false, false, false, false, false, false, false, false, false, false, false, false, false, false, false, false, false, false, false, false, false, false, false, false, false, false, false, false, false, false, false, false, false, false, false, false, false, false] rfl rfl (by kernel_rfl) (fun _ _ _ h => h) (Or.inl ⟨by rfl, ?_⟩) ?_ ?_
  rotate_left
  · intro w'
    go_simp
    with_reducible rfl
  rotate_left
  · simp only [Act.put, List.setIfInBounds_toArray, List.set_cons_zero, List.set_cons_succ, i64_w, i32_w]
    rfl
  refine pure_ (i := 5) (N := some 106) (v := ?_) (a' := ?_) #[true, true, true, true, true, true, false, false, false, false, false, false, false, false, false, false, false, false, false, false, false, false, false, false, false, false, false, false, false, false, false, false, false, false, false, false, false, false, false, false, false, false, false, false, false, false, false, false, false, false, false, false, false, false, false, false, false, false, false] rfl rfl (by kernel_rfl) (fun _ _ _ h => h) (Or.inl ⟨by rfl, ?_⟩) ?_ ?_
  rotate_left
  · intro w'
    go_simp
    with_reducible rfl
  rotate_left
  · simp only [Act.put, List.setIfInBounds_toArray, List.set_cons_zero, List.set_cons_succ, i64_w, i32_w]
    rfl
  refine pure_ (i := 6) (N := some 107) (v := ?_) (a' := ?_) #[true, true, true, true, true, true, true, false, false, false, false, false, false, false, false, false, false, false, false, false, false, false, false, false, false, false, false, false, false, false, false, false, false, false, false, false, false, false, false, false, false, false, false, false, false, false, false, false, false, false, false, false, false, false, false, false, false, false, false] rfl rfl (by kernel_rfl) (fun _ _ _ h => h) (Or.inl ⟨by rfl, ?_⟩) ?_ ?_
  rotate_left
  · intro w'
    go_simp
    with_reducible rfl
  rotate_left
  · simp only [Act.put, List.setIfInBounds_toArray, List.set_cons_zero, List.set_cons_succ, i64_w, i32_w]
    rfl
  refine pure_ (i := 7) (N := some 108) (v := ?_) (a' := ?_) #[true, true, true, true, true, true, true, true, false, false, false, false, false, false, false, false, false, false, false, false, false, false, false, false, false, false, false, false, false, false, false, false, false, false, false, false, false, false, false, false, false, false, false, false, false, false, false, false, false, false, false, false, false, false, false, false, false, false, false] rfl rfl (by kernel_rfl) (fun _ _ _ h => h) (Or.inl ⟨by rfl, ?_⟩) ?_ ?_
  rotate_left
  · intro w'
    go_simp
    with_reducible rfl
  rotate_left
  · simp only [Act.put, List.setIfInBounds_toArray, List.set_cons_zero, List.set_cons_succ, i64_w, i32_w]
    rfl
  refine pure_ (i := 8) (N := some 109) (v := ?_) (a' := ?_) #[true, true, true, true, true, true, true, true, true, false, false, false, false, false, false, false, false, false, false, false, false, false, false, false, false, false, false, false, false, false, false, false, false, false, false, false, false, false, false, false, false, false, false, false, false, false, false, false, false, false, false, false, false, false, false, false, false, false, false] rfl rfl (by kernel_rfl) (fun _ _ _ h => h) (Or.inl ⟨by rfl, ?_⟩) ?_ ?_
  rotate_left
  · intro w'
    go_simp
    with_reducible rfl
  rotate_left
  · simp only [Act.put, List.setIfInBounds_toArray, List.set_cons_zero, List.set_cons_succ, i64_w, i32_w]
    rfl
  refine pure_ (i := 9) (N := some 110) (v := ?_) (a' := ?_) #[true, true, true, true, true, true, true, true, true, true, false, false, false, false, false, false, false, false, false, false, false, false, false, false, false, false, false, false, false, false, false, false, false, false, false, false, false, false, false, false, false, false, false, false, false, false, false, false, false, false, false, false, false, false, false, false, false, false, false] rfl rfl (by kernel_rfl) (fun _ _ _ h => h) (Or.inl ⟨by rfl, ?_⟩) ?_ ?_
  rotate_left
  · intro w'
    go_simp
    with_reducible rfl
  rotate_left
  · simp only [Act.put, List.setIfInBounds_toArray, List.set_cons_zero, List.set_cons_succ, i64_w, i32_w]
    rfl
  refine pure_ (i := 10) (N := some 111) (v := ?_) (a' := ?_) #[true, true, true, true, true, true, true, true, true, true, true, false, false, false, false, false, false, false, false, false, false, false, false, false, false, false, false, false, false, false, false, false, false, false, false, false, false, false, false, false, false, false, false, false, false, false, false, false, false, false, false, false, false, false, false, false, false, false, false] rfl rfl (by kernel_rfl) (fun _ _ _ h => h) (Or.inl ⟨by rfl, ?_⟩) ?_ ?_
  rotate_left
  · intro w'
    go_simp
    with_reducible rfl
  rotate_left
  · simp only [Act.put, List.setIfInBounds_toArray, List.set_cons_zero, List.set_cons_succ, i64_w, i32_w]
    rfl
  refine pure_ (i := 11) (N := some 112) (v := ?_) (a' := ?_) #[true, true, true, true, true, true, true, true, true, true, true, true, false, false, false, false, false, false, false, false, false, false, false, false, false, false, false, false, false, false, false, false, false, false, false, false, false, false, false, false, false, false, false, false, false, false, false, false, false, false, false, false, false, false, false, false, false, false, false] rfl rfl (by kernel_rfl) (fun _ _ _ h => h) (Or.inl ⟨by rfl, ?_⟩) ?_ ?_
  rotate_left
  · intro w'
    go_simp
    with_reducible rfl
  rotate_left
  · simp only [Act.put, List.setIfInBounds_toArray, List.set_cons_zero, List.set_cons_succ, i64_w, i32_w]
    rfl
  refine pure_ (i := 12) (N := some 113) (v := ?_) (a' := ?_) #[true, true, true, true, true, true, true, true, true, true, true, true, true, false, false, false, false, false, false, false, false, false, false, false, false, false, false, false, false, false, false, false, false, false, false, false, false, false, false, false, false, false, false, false, false, false, false, false, false, false, false, false, false, false, false, false, false, false, false] rfl rfl (by kernel_rfl) (fun _ _ _ h => h) (Or.inl ⟨by rfl, ?_⟩) ?_ ?_
  rotate_left
  · intro w'
    go_simp
    with_reducible rfl
  rotate_left
  · simp only [Act.put, List.setIfInBounds_toArray, List.set_cons_zero, List.set_cons_succ, i64_w, i32_w]
    rfl
  refine take_blk (v := .agg #[.int .i64 f1, .int .i64 f2, .bool f3]) (i := 13) (N := some 114) (a' := ?_) #[true, true, true, true, true, true, true, true, true, true, true, true, true, true, false, false, false, false, false, false, false, false, false, false, false, false, false, false, false, false, false, false, false, false, false, false, false, false, false, false, false, false, false, false, false, false, false, false, false, false, false, false, false, false, false, false, false, false, false] rfl rfl (by kernel_rfl) (fun _ _ _ h => h) (by rfl) 38 (.tmp 14) rfl (w3.heap.size + 1) (by rfl) #[.int .i64 f1, .int .i64 f2, .bool f3] rfl (fun _ h => h.2.2.2.1) Tryz.underlying38 rfl (by kernel_rfl) hHeld ?_ ?_
  rotate_left
  · simp only [Act.put, List.setIfInBounds_toArray, List.set_cons_zero, List.set_cons_succ, i64_w, i32_w]
    rfl
  refine one_ (i := 14) (N := some 115) #[true, true, true, true, true, true, true, true, true, true, true, true, true, true, true, false, false, false, false, false, false, false, false, false, false, false, false, false, false, false, false, false, false, false, false, false, false, false, false, false, false, false, false, false, false, false, false, false, false, false, false, false, false, false, false, false, false, false, false] rfl rfl (by kernel_rfl) (by decide) (fun K hK => ?_)
  refine goes_ Tryz.func19 (by kernel_rfl) rfl #[v1, .agg #[.int .i64 f1, .int .i64 f2, .bool f3]] (by rfl) rfl rfl (by (try simp only [List.map_toArray, List.map_cons, List.map_nil]); first | done | rfl) ?_
  with_reducible refine (HI1.out _ _ HV1_16.out HS_16.out.env).mono ?_
  rintro e w17 ⟨rfl, hb17⟩
  have HS_17 := Kp.mk (HS_16.out.step hb17)
  have HG6_17 := Kp.mk ((hb17.block _ (heap_lt HG6_16.out)).trans HG6_16.out)
  have HG7_17 := Kp.mk ((hb17.block _ (heap_lt HG7_16.out)).trans HG7_16.out)
  have HXC_17 := Kp.mk (Kd.C_below HXC_16.out hb17)
  have HDC_17 := Kp.mk (Kd.C_below HDC_16.out hb17)
  have HV1_17 := Kp.mk (erK.K_below hb17 HV1_16.out)
  have N2_17 := Kp.mk ((hb17.block _ (heap_lt N2_16.out)).trans N2_16.out)
  have N4_17 := Kp.mk ((hb17.block _ (heap_lt N4_16.out)).trans N4_16.out)
  have E4_17 := Kp.mk ((hb17.block _ (heap_lt E4_16.out)).trans E4_16.out)
  have HV5_17 := Kp.mk (erK.K_below hb17 HV5_16.out)
  have HC5_17 := Kp.mk (Kd.C_below HC5_16.out hb17)
  have N6_17 := Kp.mk ((hb17.block _ (heap_lt N6_16.out)).trans N6_16.out)
  have HC7_17 := Kp.mk (Kd.C_below HC7_16.out hb17)
  have N8_17 := Kp.mk ((hb17.block _ (heap_lt N8_16.out)).trans N8_16.out)
  have E8_17 := Kp.mk ((hb17.block _ (heap_lt E8_16.out)).trans E8_16.out)
  have HV9_17 := Kp.mk (erK.K_below hb17 HV9_16.out)
  have HC9_17 := Kp.mk (Kd.C_below HC9_16.out hb17)
  have HC10_17 := Kp.mk (Kd.C_below HC10_16.out hb17)
  have N11_17 := Kp.mk ((hb17.block _ (heap_lt N11_16.out)).trans N11_16.out)
  have HV12_17 := Kp.mk (erK.K_below hb17 HV12_16.out)
  have HC12_17 := Kp.mk (Kd.C_below HC12_16.out hb17)
  have HC13_17 := Kp.mk (Kd.C_below HC13_16.out hb17)
  have N14_17 := Kp.mk ((hb17.block _ (heap_lt N14_16.out)).trans N14_16.out)
  clear HS_16 HG6_16 HG7_16 HXC_16 HDC_16 HV1_16 N2_16 N4_16 E4_16 HV5_16 HC5_16 N6_16 HC7_16 N8_16 E8_16 HV9_16 HC9_16 HC10_16 N11_16 HV12_16 HC12_16 HC13_16 N14_16
  refine ⟨_, rfl, ?_⟩
  refine hK.out _ _ ⟨(hb17.block _ (heap_lt (hHeld.1))).trans (hHeld.1), (hb17.block _ (heap_lt (hHeld.2.1))).trans (hHeld.2.1), (hb17.block _ (heap_lt (hHeld.2.2.1))).trans (hHeld.2.2.1), (hb17.block _ (heap_lt (hHeld.2.2.2.1))).trans (hHeld.2.2.2.1), (hb17.block _ (heap_lt (hHeld.2.2.2.2.1))).trans (hHeld.2.2.2.2.1), (hb17.block _ (heap_lt (hHeld.2.2.2.2.2.1))).trans (hHeld.2.2.2.2.2.1), (hb17.block _ (heap_lt (hHeld.2.2.2.2.2.2.1))).trans (hHeld.2.2.2.2.2.2.1), (hb17.block _ (heap_lt (hHeld.2.2.2.2.2.2.2.1))).trans (hHeld.2.2.2.2.2.2.2.1), (hb17.block _ (heap_lt (hHeld.2.2.2.2.2.2.2.2))).trans (hHeld.2.2.2.2.2.2.2.2)⟩ (fun hHeld => ?_)
  clear hK K hb17
  refine norm_ (a' := ?_) ?_ ?_
  rotate_left
  · show Act.put _ (some 115) _ = _
    simp only [Act.put, List.setIfInBounds_toArray, List.set_cons_zero, List.set_cons_succ, i64_w, i32_w]
    rfl
  refine pure_ (i := 15) (N := some 116) (v := ?_) (a' := ?_) #[true, true, true, true, true, true, true, true, true, true, true, true, true, true, true, true, false, false, false, false, false, false, false, false, false, false, false, false, false, false, false, false, false, false, false, false, false, false, false, false, false, false, false, false, false, false, false, false, false, false, false, false, false, false, false, false, false, false, false] rfl rfl (by kernel_rfl) (fun _ _ _ h => h) (Or.inl ⟨by rfl, ?_⟩) ?_ ?_
  rotate_left
  · intro w'
    go_simp
    with_reducible rfl
  rotate_left
  · simp only [Act.put, List.setIfInBounds_toArray, List.set_cons_zero, List.set_cons_succ, i64_w, i32_w]
    rfl
  refine pure_ (i := 16) (N := some 117) (v := ?_) (a' := ?_) #[true, true, true, true, true, true, true, true, true, true, true, true, true, true, true, true, true, false, false, false, false, false, false, false, false, false, false, false, false, false, false, false, false, false, false, false, false, false, false, false, false, false, false, false, false, false, false, false, false, false, false, false, false, false, false, false, false, false, false] rfl rfl (by kernel_rfl) (fun _ _ _ h => h) (Or.inl ⟨by rfl, ?_⟩) ?_ ?_
  rotate_left
  · intro w'
    go_simp
    with_reducible rfl
  rotate_left
  · simp only [Act.put, List.setIfInBounds_toArray, List.set_cons_zero, List.set_cons_succ, i64_w, i32_w]
    rfl
  refine take_blk (v := .agg C15) (i := 17) (N := some 118) (a' := ?_) #[true, true, true, true, true, true, true, true, true, true, true, true, true, true, true, true, true, true, false, false, false, false, false, false, false, false, false, false, false, false, false, false, false, false, false, false, false, false, false, false, false, false, false, false, false, false, false, false, false, false, false, false, false, false, false, false, false, false, false] rfl rfl (by kernel_rfl) (fun _ _ _ h => h) (by rfl) 28 (.tmp 15) rfl w5.heap.size (by rfl) C15 rfl (fun _ h => h.2.2.2.2.1) Tryz.underlying28 rfl Y15.out hHeld ?_ ?_
  rotate_left
  · simp only [Act.put, List.setIfInBounds_toArray, List.set_cons_zero, List.set_cons_succ, i64_w, i32_w]
    rfl
  refine take_blk (v := .agg C18) (i := 18) (N := some 119) (a' := ?_) #[true, true, true, true, true, true, true, true, true, true, true, true, true, true, true, true, true, true, true, false, false, false, false, false, false, false, false, false, false, false, false, false, false, false, false, false, false, false, false, false, false, false, false, false, false, false, false, false, false, false, false, false, false, false, false, false, false, false, false] rfl rfl (by kernel_rfl) (fun _ _ _ h => h) (by rfl) 28 (.tmp 18) rfl w7.heap.size (by rfl) C18 rfl (fun _ h => h.2.2.2.2.2.1) Tryz.underlying28 rfl Y18.out hHeld ?_ ?_
  rotate_left
  · simp only [Act.put, List.setIfInBounds_toArray, List.set_cons_zero, List.set_cons_succ, i64_w, i32_w]
    rfl
  refine one_ (i := 19) (N := some 120) #[true, true, true, true, true, true, true, true, true, true, true, true, true, true, true, true, true, true, true, true, false, false, false, false, false, false, false, false, false, false, false, false, false, false, false, false, false, false, false, false, false, false, false, false, false, false, false, false, false, false, false, false, false, false, false, false, false, false, false] rfl rfl (by kernel_rfl) (by decide) (fun K hK => ?_)
  refine goes_ Tryz.func20 (by kernel_rfl) rfl #[.agg C15, .agg C18] (by rfl) rfl rfl (by (try simp only [List.map_toArray, List.map_cons, List.map_nil]); first | done | rfl) ?_
  with_reducible refine (HSR.out _ HC5_17.out HC7_17.out).mono ?_
  rintro e w18 ⟨rfl, hb18⟩
  have HS_18 := Kp.mk (HS_17.out.step hb18)
  have HG6_18 := Kp.mk ((hb18.block _ (heap_lt HG6_17.out)).trans HG6_17.out)
  have HG7_18 := Kp.mk ((hb18.block _ (heap_lt HG7_17.out)).trans HG7_17.out)
  have HXC_18 := Kp.mk (Kd.C_below HXC_17.out hb18)
  have HDC_18 := Kp.mk (Kd.C_below HDC_17.out hb18)
  have HV1_18 := Kp.mk (erK.K_below hb18 HV1_17.out)
  have N2_18 := Kp.mk ((hb18.block _ (heap_lt N2_17.out)).trans N2_17.out)
  have N4_18 := Kp.mk ((hb18.block _ (heap_lt N4_17.out)).trans N4_17.out)
  have E4_18 := Kp.mk ((hb18.block _ (heap_lt E4_17.out)).trans E4_17.out)
  have HV5_18 := Kp.mk (erK.K_below hb18 HV5_17.out)
  have HC5_18 := Kp.mk (Kd.C_below HC5_17.out hb18)
  have N6_18 := Kp.mk ((hb18.block _ (heap_lt N6_17.out)).trans N6_17.out)
  have HC7_18 := Kp.mk (Kd.C_below HC7_17.out hb18)
  have N8_18 := Kp.mk ((hb18.block _ (heap_lt N8_17.out)).trans N8_17.out)
  have E8_18 := Kp.mk ((hb18.block _ (heap_lt E8_17.out)).trans E8_17.out)
  have HV9_18 := Kp.mk (erK.K_below hb18 HV9_17.out)
  have HC9_18 := Kp.mk (Kd.C_below HC9_17.out hb18)
  have HC10_18 := Kp.mk (Kd.C_below HC10_17.out hb18)
  have N11_18 := Kp.mk ((hb18.block _ (heap_lt N11_17.out)).trans N11_17.out)
  have HV12_18 := Kp.mk (erK.K_below hb18 HV12_17.out)
  have HC12_18 := Kp.mk (Kd.C_below HC12_17.out hb18)
  have HC13_18 := Kp.mk (Kd.C_below HC13_17.out hb18)
  have N14_18 := Kp.mk ((hb18.block _ (heap_lt N14_17.out)).trans N14_17.out)
  clear HS_17 HG6_17 HG7_17 HXC_17 HDC_17 HV1_17 N2_17 N4_17 E4_17 HV5_17 HC5_17 N6_17 HC7_17 N8_17 E8_17 HV9_17 HC9_17 HC10_17 N11_17 HV12_17 HC12_17 HC13_17 N14_17
  refine ⟨_, rfl, ?_⟩
  refine hK.out _ _ ⟨(hb18.block _ (heap_lt (hHeld.1))).trans (hHeld.1), (hb18.block _ (heap_lt (hHeld.2.1))).trans (hHeld.2.1), (hb18.block _ (heap_lt (hHeld.2.2.1))).trans (hHeld.2.2.1), (hb18.block _ (heap_lt (hHeld.2.2.2.1))).trans (hHeld.2.2.2.1), (hb18.block _ (heap_lt (hHeld.2.2.2.2.1))).trans (hHeld.2.2.2.2.1), (hb18.block _ (heap_lt (hHeld.2.2.2.2.2.1))).trans (hHeld.2.2.2.2.2.1), (hb18.block _ (heap_lt (hHeld.2.2.2.2.2.2.1))).trans (hHeld.2.2.2.2.2.2.1), (hb18.block _ (heap_lt (hHeld.2.2.2.2.2.2.2.1))).trans (hHeld.2.2.2.2.2.2.2.1), (hb18.block _ (heap_lt (hHeld.2.2.2.2.2.2.2.2))).trans (hHeld.2.2.2.2.2.2.2.2)⟩ (fun hHeld => ?_)
  clear hK K hb18
  refine norm_ (a' := ?_) ?_ ?_
  rotate_left
  · show Act.put _ (some 120) _ = _
    simp only [Act.put, List.setIfInBounds_toArray, List.set_cons_zero, List.set_cons_succ, i64_w, i32_w]
    rfl
  refine pure_ (i := 20) (N := some 121) (v := ?_) (a' := ?_) #[true, true, true, true, true, true, true, true, true, true, true, true, true, true, true, true, true, true, true, true, true, false, false, false, false, false, false, false, false, false, false, false, false, false, false, false, false, false, false, false, false, false, false, false, false, false, false, false, false, false, false, false, false, false, false, false, false, false, false] rfl rfl (by kernel_rfl) (fun _ _ _ h => h) (Or.inl ⟨by rfl, ?_⟩) ?_ ?_
  rotate_left
  · intro w'
    go_simp
    with_reducible rfl
  rotate_left
  · simp only [Act.put, List.setIfInBounds_toArray, List.set_cons_zero, List.set_cons_succ, i64_w, i32_w]
    rfl
  refine pure_ (i := 21) (N := some 122) (v := ?_) (a' := ?_) #[true, true, true, true, true, true, true, true, true, true, true, true, true, true, true, true, true, true, true, true, true, true, false, false, false, false, false, false, false, false, false, false, false, false, false, false, false, false, false, false, false, false, false, false, false, false, false, false, false, false, false, false, false, false, false, false, false, false, false] rfl rfl (by kernel_rfl) (fun _ _ _ h => h) (Or.inl ⟨by rfl, ?_⟩) ?_ ?_
  rotate_left
  · intro w'
    go_simp
    with_reducible rfl
  rotate_left
  · simp only [Act.put, List.setIfInBounds_toArray, List.set_cons_zero, List.set_cons_succ, i64_w, i32_w]
    rfl
  refine pure_ (i := 22) (N := some 123) (v := ?_) (a' := ?_) #[true, true, true, true, true, true, true, true, true, true, true, true, true, true, true, true, true, true, true, true, true, true, true, false, false, false, false, false, false, false, false, false, false, false, false, false, false, false, false, false, false, false, false, false, false, false, false, false, false, false, false, false, false, false, false, false, false, false, false] rfl rfl (by kernel_rfl) (fun _ _ _ h => h) (Or.inl ⟨by rfl, ?_⟩) ?_ ?_
  rotate_left
  · intro w'
    go_simp
    with_reducible rfl
  rotate_left
  · simp only [Act.put, List.setIfInBounds_toArray, List.set_cons_zero, List.set_cons_succ, i64_w, i32_w]
    rfl
  refine pure_ (i := 23) (N := some 124) (v := ?_) (a' := ?_) #[true, true, true, true, true, true, true, true, true, true, true, true, true, true, true, true, true, true, true, true, true, true, true, true, false, false, false, false, false, false, false, false, false, false, false, false, false, false, false, false, false, false, false, false, false, false, false, false, false, false, false, false, false, false, false, false, false, false, false] rfl rfl (by kernel_rfl) (fun _ _ _ h => h) (Or.inl ⟨by rfl, ?_⟩) ?_ ?_
  rotate_left
  · intro w'
    go_simp
    with_reducible rfl
  rotate_left
  · simp only [Act.put, List.setIfInBounds_toArray, List.set_cons_zero, List.set_cons_succ, i64_w, i32_w]
    rfl
  refine pure_ (i := 24) (N := some 125) (v := ?_) (a' := ?_) #[true, true, true, true, true, true, true, true, true, true, true, true, true, true, true, true, true, true, true, true, true, true, true, true, true, false, false, false, false, false, false, false, false, false, false, false, false, false, false, false, false, false, false, false, false, false, false, false, false, false, false, false, false, false, false, false, false, false, false] rfl rfl (by kernel_rfl) (fun _ _ _ h => h) (Or.inl ⟨by rfl, ?_⟩) ?_ ?_
  rotate_left
  · intro w'
    go_simp
    with_reducible rfl
  rotate_left
  · simp only [Act.put, List.setIfInBounds_toArray, List.set_cons_zero, List.set_cons_succ, i64_w, i32_w]
    rfl
  refine pure_ (i := 25) (N := some 126) (v := ?_) (a' := ?_) #[true, true, true, true, true, true, true, true, true, true, true, true, true, true, true, true, true, true, true, true, true, true, true, true, true, true, false, false, false, false, false, false, false, false, false, false, false, false, false, false, false, false, false, false, false, false, false, false, false, false, false, false, false, false, false, false, false, false, false] rfl rfl (by kernel_rfl) (fun _ _ _ h => h) (Or.inl ⟨by rfl, ?_⟩) ?_ ?_
  rotate_left
  · intro w'
    go_simp
    with_reducible rfl
  rotate_left
  · simp only [Act.put, List.setIfInBounds_toArray, List.set_cons_zero, List.set_cons_succ, i64_w, i32_w]
    rfl
  refine pure_ (i := 26) (N := some 127) (v := ?_) (a' := ?_) #[true, true, true, true, true, true, true, true, true, true, true, true, true, true, true, true, true, true, true, true, true, true, true, true, true, true, true, false, false, false, false, false, false, false, false, false, false, false, false, false, false, false, false, false, false, false, false, false, false, false, false, false, false, false, false, false, false, false, false] rfl rfl (by kernel_rfl) (fun _ _ _ h => h) (Or.inl ⟨by rfl, ?_⟩) ?_ ?_
  rotate_left
  · intro w'
    go_simp
    with_reducible rfl
  rotate_left
  · simp only [Act.put, List.setIfInBounds_toArray, List.set_cons_zero, List.set_cons_succ, i64_w, i32_w]
    rfl
  refine pure_ (i := 27) (N := some 128) (v := ?_) (a' := ?_) #[true, true, true, true, true, true, true, true, true, true, true, true, true, true, true, true, true, true, true, true, true, true, true, true, true, true, true, true, false, false, false, false, false, false, false, false, false, false, false, false, false, false, false, false, false, false, false, false, false, false, false, false, false, false, false, false, false, false, false] rfl rfl (by kernel_rfl) (fun _ _ _ h => h) (Or.inl ⟨by rfl, ?_⟩) ?_ ?_
  rotate_left
  · intro w'
    go_simp
    with_reducible rfl
  rotate_left
  · simp only [Act.put, List.setIfInBounds_toArray, List.set_cons_zero, List.set_cons_succ, i64_w, i32_w]
    rfl
  refine take_blk (v := .agg #[.int .i64 g1, .int .i64 g2, .bool g3]) (i := 28) (N := some 129) (a' := ?_) #[true, true, true, true, true, true, true, true, true, true, true, true, true, true, true, true, true, true, true, true, true, true, true, true, true, true, true, true, true, false, false, false, false, false, false, false, false, false, false, false, false, false, false, false, false, false, false, false, false, false, false, false, false, false, false, false, false, false, false] rfl rfl (by kernel_rfl) (fun _ _ _ h => h) (by rfl) 38 (.tmp 20) rfl (w7.heap.size + 1) (by rfl) #[.int .i64 g1, .int .i64 g2, .bool g3] rfl (fun _ h => h.2.2.2.2.2.2.1) Tryz.underlying38 rfl (by kernel_rfl) hHeld ?_ ?_
  rotate_left
  · simp only [Act.put, List.setIfInBounds_toArray, List.set_cons_zero, List.set_cons_succ, i64_w, i32_w]
    rfl
  refine one_ (i := 29) (N := some 130) #[true, true, true, true, true, true, true, true, true, true, true, true, true, true, true, true, true, true, true, true, true, true, true, true, true, true, true, true, true, true, false, false, false, false, false, false, false, false, false, false, false, false, false, false, false, false, false, false, false, false, false, false, false, false, false, false, false, false, false] rfl rfl (by kernel_rfl) (by decide) (fun K hK => ?_)
  refine goes_ Tryz.func19 (by kernel_rfl) rfl #[v5, .agg #[.int .i64 g1, .int .i64 g2, .bool g3]] (by rfl) rfl rfl (by (try simp only [List.map_toArray, List.map_cons, List.map_nil]); first | done | rfl) ?_
  with_reducible refine (HI2.out _ _ HV5_18.out HS_18.out.env).mono ?_
  rintro e w19 ⟨rfl, hb19⟩
  have HS_19 := Kp.mk (HS_18.out.step hb19)
  have HG6_19 := Kp.mk ((hb19.block _ (heap_lt HG6_18.out)).trans HG6_18.out)
  have HG7_19 := Kp.mk ((hb19.block _ (heap_lt HG7_18.out)).trans HG7_18.out)
  have HXC_19 := Kp.mk (Kd.C_below HXC_18.out hb19)
  have HDC_19 := Kp.mk (Kd.C_below HDC_18.out hb19)
  have HV1_19 := Kp.mk (erK.K_below hb19 HV1_18.out)
  have N2_19 := Kp.mk ((hb19.block _ (heap_lt N2_18.out)).trans N2_18.out)
  have N4_19 := Kp.mk ((hb19.block _ (heap_lt N4_18.out)).trans N4_18.out)
  have E4_19 := Kp.mk ((hb19.block _ (heap_lt E4_18.out)).trans E4_18.out)
  have HV5_19 := Kp.mk (erK.K_below hb19 HV5_18.out)
  have HC5_19 := Kp.mk (Kd.C_below HC5_18.out hb19)
  have N6_19 := Kp.mk ((hb19.block _ (heap_lt N6_18.out)).trans N6_18.out)
  have HC7_19 := Kp.mk (Kd.C_below HC7_18.out hb19)
  have N8_19 := Kp.mk ((hb19.block _ (heap_lt N8_18.out)).trans N8_18.out)
  have E8_19 := Kp.mk ((hb19.block _ (heap_lt E8_18.out)).trans E8_18.out)
  have HV9_19 := Kp.mk (erK.K_below hb19 HV9_18.out)
  have HC9_19 := Kp.mk (Kd.C_below HC9_18.out hb19)
  have HC10_19 := Kp.mk (Kd.C_below HC10_18.out hb19)
  have N11_19 := Kp.mk ((hb19.block _ (heap_lt N11_18.out)).trans N11_18.out)
  have HV12_19 := Kp.mk (erK.K_below hb19 HV12_18.out)
  have HC12_19 := Kp.mk (Kd.C_below HC12_18.out hb19)
  have HC13_19 := Kp.mk (Kd.C_below HC13_18.out hb19)
  have N14_19 := Kp.mk ((hb19.block _ (heap_lt N14_18.out)).trans N14_18.out)
  clear HS_18 HG6_18 HG7_18 HXC_18 HDC_18 HV1_18 N2_18 N4_18 E4_18 HV5_18 HC5_18 N6_18 HC7_18 N8_18 E8_18 HV9_18 HC9_18 HC10_18 N11_18 HV12_18 HC12_18 HC13_18 N14_18
  refine ⟨_, rfl, ?_⟩
  refine hK.out _ _ ⟨(hb19.block _ (heap_lt (hHeld.1))).trans (hHeld.1), (hb19.block _ (heap_lt (hHeld.2.1))).trans (hHeld.2.1), (hb19.block _ (heap_lt (hHeld.2.2.1))).trans (hHeld.2.2.1), (hb19.block _ (heap_lt (hHeld.2.2.2.1))).trans (hHeld.2.2.2.1), (hb19.block _ (heap_lt (hHeld.2.2.2.2.1))).trans (hHeld.2.2.2.2.1), (hb19.block _ (heap_lt (hHeld.2.2.2.2.2.1))).trans (hHeld.2.2.2.2.2.1), (hb19.block _ (heap_lt (hHeld.2.2.2.2.2.2.1))).trans (hHeld.2.2.2.2.2.2.1), (hb19.block _ (heap_lt (hHeld.2.2.2.2.2.2.2.1))).trans (hHeld.2.2.2.2.2.2.2.1), (hb19.block _ (heap_lt (hHeld.2.2.2.2.2.2.2.2))).trans (hHeld.2.2.2.2.2.2.2.2)⟩ (fun hHeld => ?_)
  clear hK K hb19
  refine norm_ (a' := ?_) ?_ ?_
  rotate_left
  · show Act.put _ (some 130) _ = _
    simp only [Act.put, List.setIfInBounds_toArray, List.set_cons_zero, List.set_cons_succ, i64_w, i32_w]
    rfl
  refine pure_ (i := 30) (N := some 131) (v := ?_) (a' := ?_) #[true, true, true, true, true, true, true, true, true, true, true, true, true, true, true, true, true, true, true, true, true, true, true, true, true, true, true, true, true, true, true, false, false, false, false, false, false, false, false, false, false, false, false, false, false, false, false, false, false, false, false, false, false, false, false, false, false, false, false] rfl rfl (by kernel_rfl) (fun _ _ _ h => h) (Or.inl ⟨by rfl, ?_⟩) ?_ ?_
  rotate_left
  · intro w'
    go_simp
    with_reducible rfl
  rotate_left
  · simp only [Act.put, List.setIfInBounds_toArray, List.set_cons_zero, List.set_cons_succ, i64_w, i32_w]
    rfl
  refine pure_ (i := 31) (N := some 132) (v := ?_) (a' := ?_) #[true, true, true, true, true, true, true, true, true, true, true, true, true, true, true, true, true, true, true, true, true, true, true, true, true, true, true, true, true, true, true, true, false, false, false, false, false, false, false, false, false, false, false, false, false, false, false, false, false, false, false, false, false, false, false, false, false, false, false] rfl rfl (by kernel_rfl) (fun _ _ _ h => h) (Or.inl ⟨by rfl, ?_⟩) ?_ ?_
  rotate_left
  · intro w'
    go_simp
    with_reducible rfl
  rotate_left
  · simp only [Act.put, List.setIfInBounds_toArray, List.set_cons_zero, List.set_cons_succ, i64_w, i32_w]
    rfl
  refine pure_ (i := 32) (N := some 133) (v := ?_) (a' := ?_) #[true, true, true, true, true, true, true, true, true, true, true, true, true, true, true, true, true, true, true, true, true, true, true, true, true, true, true, true, true, true, true, true, true, false, false, false, false, false, false, false, false, false, false, false, false, false, false, false, false, false, false, false, false, false, false, false, false, false, false] rfl rfl (by kernel_rfl) (fun _ _ _ h => h) (Or.inl ⟨by rfl, ?_⟩) ?_ ?_
  rotate_left
  · intro w'
    go_simp
    with_reducible rfl
  rotate_left
  · simp only [Act.put, List.setIfInBounds_toArray, List.set_cons_zero, List.set_cons_succ, i64_w, i32_w]
    rfl
  refine pure_ (i := 33) (N := some 134) (v := ?_) (a' := ?_) #[true, true, true, true, true, true, true, true, true, true, true, true, true, true, true, true, true, true, true, true, true, true, true, true, true, true, true, true, true, true, true, true, true, true, false, false, false, false, false, false, false, false, false, false, false, false, false, false, false, false, false, false, false, false, false, false, false, false, false] rfl rfl (by kernel_rfl) (fun _ _ _ h => h) (Or.inl ⟨by rfl, ?_⟩) ?_ ?_
  rotate_left
  · intro w'
    go_simp
    with_reducible rfl
  rotate_left
  · simp only [Act.put, List.setIfInBounds_toArray, List.set_cons_zero, List.set_cons_succ, i64_w, i32_w]
    rfl
  refine one_ (i := 34) (N := some 135) #[true, true, true, true, true, true, true, true, true, true, true, true, true, true, true, true, true, true, true, true, true, true, true, true, true, true, true, true, true, true, true, true, true, true, true, false, false, false, false, false, false, false, false, false, false, false, false, false, false, false, false, false, false, false, false, false, false, false, false] rfl rfl (by kernel_rfl) (by decide) (fun K hK => ?_)
  refine goes_ Tryz.func21 (by kernel_rfl) rfl #[.slice B9 ws.length d9, .slice B10 ws.length d10] (by rfl) rfl rfl (by (try simp only [List.map_toArray, List.map_cons, List.map_nil]); first | done | rfl) ?_
  with_reducible refine (sameBytes B9 B10 d9 d10 ws _ HC9_19.out hc9 HC10_19.out hc10).mono ?_
  rintro e w20 ⟨rfl, hb20⟩
  have HS_20 := Kp.mk (HS_19.out.step hb20)
  have HG6_20 := Kp.mk ((hb20.block _ (heap_lt HG6_19.out)).trans HG6_19.out)
  have HG7_20 := Kp.mk ((hb20.block _ (heap_lt HG7_19.out)).trans HG7_19.out)
  have HXC_20 := Kp.mk (Kd.C_below HXC_19.out hb20)
  have HDC_20 := Kp.mk (Kd.C_below HDC_19.out hb20)
  have HV1_20 := Kp.mk (erK.K_below hb20 HV1_19.out)
  have N2_20 := Kp.mk ((hb20.block _ (heap_lt N2_19.out)).trans N2_19.out)
  have N4_20 := Kp.mk ((hb20.block _ (heap_lt N4_19.out)).trans N4_19.out)
  have E4_20 := Kp.mk ((hb20.block _ (heap_lt E4_19.out)).trans E4_19.out)
  have HV5_20 := Kp.mk (erK.K_below hb20 HV5_19.out)
  have HC5_20 := Kp.mk (Kd.C_below HC5_19.out hb20)
  have N6_20 := Kp.mk ((hb20.block _ (heap_lt N6_19.out)).trans N6_19.out)
  have HC7_20 := Kp.mk (Kd.C_below HC7_19.out hb20)
  have N8_20 := Kp.mk ((hb20.block _ (heap_lt N8_19.out)).trans N8_19.out)
  have E8_20 := Kp.mk ((hb20.block _ (heap_lt E8_19.out)).trans E8_19.out)
  have HV9_20 := Kp.mk (erK.K_below hb20 HV9_19.out)
  have HC9_20 := Kp.mk (Kd.C_below HC9_19.out hb20)
  have HC10_20 := Kp.mk (Kd.C_below HC10_19.out hb20)
  have N11_20 := Kp.mk ((hb20.block _ (heap_lt N11_19.out)).trans N11_19.out)
  have HV12_20 := Kp.mk (erK.K_below hb20 HV12_19.out)
  have HC12_20 := Kp.mk (Kd.C_below HC12_19.out hb20)
  have HC13_20 := Kp.mk (Kd.C_below HC13_19.out hb20)
  have N14_20 := Kp.mk ((hb20.block _ (heap_lt N14_19.out)).trans N14_19.out)
  clear HS_19 HG6_19 HG7_19 HXC_19 HDC_19 HV1_19 N2_19 N4_19 E4_19 HV5_19 HC5_19 N6_19 HC7_19 N8_19 E8_19 HV9_19 HC9_19 HC10_19 N11_19 HV12_19 HC12_19 HC13_19 N14_19
  refine ⟨_, rfl, ?_⟩
  refine hK.out _ _ ⟨(hb20.block _ (heap_lt (hHeld.1))).trans (hHeld.1), (hb20.block _ (heap_lt (hHeld.2.1))).trans (hHeld.2.1), (hb20.block _ (heap_lt (hHeld.2.2.1))).trans (hHeld.2.2.1), (hb20.block _ (heap_lt (hHeld.2.2.2.1))).trans (hHeld.2.2.2.1), (hb20.block _ (heap_lt (hHeld.2.2.2.2.1))).trans (hHeld.2.2.2.2.1), (hb20.block _ (heap_lt (hHeld.2.2.2.2.2.1))).trans (hHeld.2.2.2.2.2.1), (hb20.block _ (heap_lt (hHeld.2.2.2.2.2.2.1))).trans (hHeld.2.2.2.2.2.2.1), (hb20.block _ (heap_lt (hHeld.2.2.2.2.2.2.2.1))).trans (hHeld.2.2.2.2.2.2.2.1), (hb20.block _ (heap_lt (hHeld.2.2.2.2.2.2.2.2))).trans (hHeld.2.2.2.2.2.2.2.2)⟩ (fun hHeld => ?_)
  clear hK K hb20
  refine norm_ (a' := ?_) ?_ ?_
  rotate_left
  · show Act.put _ (some 135) _ = _
    simp only [Act.put, List.setIfInBounds_toArray, List.set_cons_zero, List.set_cons_succ, i64_w, i32_w]
    rfl
  refine pure_ (i := 35) (N := some 136) (v := ?_) (a' := ?_) #[true, true, true, true, true, true, true, true, true, true, true, true, true, true, true, true, true, true, true, true, true, true, true, true, true, true, true, true, true, true, true, true, true, true, true, true, false, false, false, false, false, false, false, false, false, false, false, false, false, false, false, false, false, false, false, false, false, false, false] rfl rfl (by kernel_rfl) (fun _ _ _ h => h) (Or.inl ⟨by rfl, ?_⟩) ?_ ?_
  rotate_left
  · intro w'
    go_simp
    with_reducible rfl
  rotate_left
  · simp only [Act.put, List.setIfInBounds_toArray, List.set_cons_zero, List.set_cons_succ, i64_w, i32_w]
    rfl
  refine pure_ (i := 36) (N := some 137) (v := ?_) (a' := ?_) #[true, true, true, true, true, true, true, true, true, true, true, true, true, true, true, true, true, true, true, true, true, true, true, true, true, true, true, true, true, true, true, true, true, true, true, true, true, false, false, false, false, false, false, false, false, false, false, false, false, false, false, false, false, false, false, false, false, false, false] rfl rfl (by kernel_rfl) (fun _ _ _ h => h) (Or.inl ⟨by rfl, ?_⟩) ?_ ?_
  rotate_left
  · intro w'
    go_simp
    with_reducible rfl
  rotate_left
  · simp only [Act.put, List.setIfInBounds_toArray, List.set_cons_zero, List.set_cons_succ, i64_w, i32_w]
    rfl
  refine pure_ (i := 37) (N := some 138) (v := ?_) (a' := ?_) #[true, true, true, true, true, true, true, true, true, true, true, true, true, true, true, true, true, true, true, true, true, true, true, true, true, true, true, true, true, true, true, true, true, true, true, true, true, true, false, false, false, false, false, false, false, false, false, false, false, false, false, false, false, false, false, false, false, false, false] rfl rfl (by kernel_rfl) (fun _ _ _ h => h) (Or.inl ⟨by rfl, ?_⟩) ?_ ?_
  rotate_left
  · intro w'
    go_simp
    with_reducible rfl
  rotate_left
  · simp only [Act.put, List.setIfInBounds_toArray, List.set_cons_zero, List.set_cons_succ, i64_w, i32_w]
    rfl
  refine take_blk (v := .agg #[.int .i64 h1, .int .i64 h2, .bool h3]) (i := 38) (N := some 139) (a' := ?_) #[true, true, true, true, true, true, true, true, true, true, true, true, true, true, true, true, true, true, true, true, true, true, true, true, true, true, true, true, true, true, true, true, true, true, true, true, true, true, true, false, false, false, false, false, false, false, false, false, false, false, false, false, false, false, false, false, false, false, false] rfl rfl (by kernel_rfl) (fun _ _ _ h => h) (by rfl) 38 (.tmp 24) rfl w10.heap.size (by rfl) #[.int .i64 h1, .int .i64 h2, .bool h3] rfl (fun _ h => h.2.2.2.2.2.2.2.1) Tryz.underlying38 rfl (by kernel_rfl) hHeld ?_ ?_
  rotate_left
  · simp only [Act.put, List.setIfInBounds_toArray, List.set_cons_zero, List.set_cons_succ, i64_w, i32_w]
    rfl
  refine one_ (i := 39) (N := some 140) #[true, true, true, true, true, true, true, true, true, true, true, true, true, true, true, true, true, true, true, true, true, true, true, true, true, true, true, true, true, true, true, true, true, true, true, true, true, true, true, true, false, false, false, false, false, false, false, false, false, false, false, false, false, false, false, false, false, false, false] rfl rfl (by kernel_rfl) (by decide) (fun K hK => ?_)
  refine goes_ Tryz.func19 (by kernel_rfl) rfl #[v9, .agg #[.int .i64 h1, .int .i64 h2, .bool h3]] (by rfl) rfl rfl (by (try simp only [List.map_toArray, List.map_cons, List.map_nil]); first | done | rfl) ?_
  with_reducible refine (HI3.out _ _ HV9_20.out HS_20.out.env).mono ?_
  rintro e w21 ⟨rfl, hb21⟩
  have HS_21 := Kp.mk (HS_20.out.step hb21)
  have HG6_21 := Kp.mk ((hb21.block _ (heap_lt HG6_20.out)).trans HG6_20.out)
  have HG7_21 := Kp.mk ((hb21.block _ (heap_lt HG7_20.out)).trans HG7_20.out)
  have HXC_21 := Kp.mk (Kd.C_below HXC_20.out hb21)
  have HDC_21 := Kp.mk (Kd.C_below HDC_20.out hb21)
  have HV1_21 := Kp.mk (erK.K_below hb21 HV1_20.out)
  have N2_21 := Kp.mk ((hb21.block _ (heap_lt N2_20.out)).trans N2_20.out)
  have N4_21 := Kp.mk ((hb21.block _ (heap_lt N4_20.out)).trans N4_20.out)
  have E4_21 := Kp.mk ((hb21.block _ (heap_lt E4_20.out)).trans E4_20.out)
  have HV5_21 := Kp.mk (erK.K_below hb21 HV5_20.out)
  have HC5_21 := Kp.mk (Kd.C_below HC5_20.out hb21)
  have N6_21 := Kp.mk ((hb21.block _ (heap_lt N6_20.out)).trans N6_20.out)
  have HC7_21 := Kp.mk (Kd.C_below HC7_20.out hb21)
  have N8_21 := Kp.mk ((hb21.block _ (heap_lt N8_20.out)).trans N8_20.out)
  have E8_21 := Kp.mk ((hb21.block _ (heap_lt E8_20.out)).trans E8_20.out)
  have HV9_21 := Kp.mk (erK.K_below hb21 HV9_20.out)
  have HC9_21 := Kp.mk (Kd.C_below HC9_20.out hb21)
  have HC10_21 := Kp.mk (Kd.C_below HC10_20.out hb21)
  have N11_21 := Kp.mk ((hb21.block _ (heap_lt N11_20.out)).trans N11_20.out)
  have HV12_21 := Kp.mk (erK.K_below hb21 HV12_20.out)
  have HC12_21 := Kp.mk (Kd.C_below HC12_20.out hb21)
  have HC13_21 := Kp.mk (Kd.C_below HC13_20.out hb21)
  have N14_21 := Kp.mk ((hb21.block _ (heap_lt N14_20.out)).trans N14_20.out)
  clear HS_20 HG6_20 HG7_20 HXC_20 HDC_20 HV1_20 N2_20 N4_20 E4_20 HV5_20 HC5_20 N6_20 HC7_20 N8_20 E8_20 HV9_20 HC9_20 HC10_20 N11_20 HV12_20 HC12_20 HC13_20 N14_20
  refine ⟨_, rfl, ?_⟩
  refine hK.out _ _ ⟨(hb21.block _ (heap_lt (hHeld.1))).trans (hHeld.1), (hb21.block _ (heap_lt (hHeld.2.1))).trans (hHeld.2.1), (hb21.block _ (heap_lt (hHeld.2.2.1))).trans (hHeld.2.2.1), (hb21.block _ (heap_lt (hHeld.2.2.2.1))).trans (hHeld.2.2.2.1), (hb21.block _ (heap_lt (hHeld.2.2.2.2.1))).trans (hHeld.2.2.2.2.1), (hb21.block _ (heap_lt (hHeld.2.2.2.2.2.1))).trans (hHeld.2.2.2.2.2.1), (hb21.block _ (heap_lt (hHeld.2.2.2.2.2.2.1))).trans (hHeld.2.2.2.2.2.2.1), (hb21.block _ (heap_lt (hHeld.2.2.2.2.2.2.2.1))).trans (hHeld.2.2.2.2.2.2.2.1), (hb21.block _ (heap_lt (hHeld.2.2.2.2.2.2.2.2))).trans (hHeld.2.2.2.2.2.2.2.2)⟩ (fun hHeld => ?_)
  clear hK K hb21
  refine norm_ (a' := ?_) ?_ ?_
  rotate_left
  · show Act.put _ (some 140) _ = _
    simp only [Act.put, List.setIfInBounds_toArray, List.set_cons_zero, List.set_cons_succ, i64_w, i32_w]
    rfl
  refine pure_ (i := 40) (N := some 141) (v := ?_) (a' := ?_) #[true, true, true, true, true, true, true, true, true, true, true, true, true, true, true, true, true, true, true, true, true, true, true, true, true, true, true, true, true, true, true, true, true, true, true, true, true, true, true, true, true, false, false, false, false, false, false, false, false, false, false, false, false, false, false, false, false, false, false] rfl rfl (by kernel_rfl) (fun _ _ _ h => h) (Or.inl ⟨by rfl, ?_⟩) ?_ ?_
  rotate_left
  · intro w'
    go_simp
    with_reducible rfl
  rotate_left
  · simp only [Act.put, List.setIfInBounds_toArray, List.set_cons_zero, List.set_cons_succ, i64_w, i32_w]
    rfl
  refine pure_ (i := 41) (N := some 142) (v := ?_) (a' := ?_) #[true, true, true, true, true, true, true, true, true, true, true, true, true, true, true, true, true, true, true, true, true, true, true, true, true, true, true, true, true, true, true, true, true, true, true, true, true, true, true, true, true, true, false, false, false, false, false, false, false, false, false, false, false, false, false, false, false, false, false] rfl rfl (by kernel_rfl) (fun _ _ _ h => h) (Or.inl ⟨by rfl, ?_⟩) ?_ ?_
  rotate_left
  · intro w'
    go_simp
    with_reducible rfl
  rotate_left
  · simp only [Act.put, List.setIfInBounds_toArray, List.set_cons_zero, List.set_cons_succ, i64_w, i32_w]
    rfl
  refine pure_ (i := 42) (N := some 143) (v := ?_) (a' := ?_) #[true, true, true, true, true, true, true, true, true, true, true, true, true, true, true, true, true, true, true, true, true, true, true, true, true, true, true, true, true, true, true, true, true, true, true, true, true, true, true, true, true, true, true, false, false, false, false, false, false, false, false, false, false, false, false, false, false, false, false] rfl rfl (by kernel_rfl) (fun _ _ _ h => h) (Or.inl ⟨by rfl, ?_⟩) ?_ ?_
  rotate_left
  · intro w'
    go_simp
    with_reducible rfl
  rotate_left
  · simp only [Act.put, List.setIfInBounds_toArray, List.set_cons_zero, List.set_cons_succ, i64_w, i32_w]
    rfl
  refine pure_ (i := 43) (N := some 144) (v := ?_) (a' := ?_) #[true, true, true, true, true, true, true, true, true, true, true, true, true, true, true, true, true, true, true, true, true, true, true, true, true, true, true, true, true, true, true, true, true, true, true, true, true, true, true, true, true, true, true, true, false, false, false, false, false, false, false, false, false, false, false, false, false, false, false] rfl rfl (by kernel_rfl) (fun _ _ _ h => h) (Or.inl ⟨by rfl, ?_⟩) ?_ ?_
  rotate_left
  · intro w'
    go_simp
    with_reducible rfl
  rotate_left
  · simp only [Act.put, List.setIfInBounds_toArray, List.set_cons_zero, List.set_cons_succ, i64_w, i32_w]
    rfl
  refine one_ (i := 44) (N := some 145) #[true, true, true, true, true, true, true, true, true, true, true, true, true, true, true, true, true, true, true, true, true, true, true, true, true, true, true, true, true, true, true, true, true, true, true, true, true, true, true, true, true, true, true, true, true, false, false, false, false, false, false, false, false, false, false, false, false, false, false] rfl rfl (by kernel_rfl) (by decide) (fun K hK => ?_)
  refine goes_ Tryz.func21 (by kernel_rfl) rfl #[.slice B12 us.length d12, .slice B13 us.length d13] (by rfl) rfl rfl (by (try simp only [List.map_toArray, List.map_cons, List.map_nil]); first | done | rfl) ?_
  with_reducible refine (sameBytes B12 B13 d12 d13 us _ HC12_21.out hc12 HC13_21.out hc13).mono ?_
  rintro e w22 ⟨rfl, hb22⟩
  have HS_22 := Kp.mk (HS_21.out.step hb22)
  have HG6_22 := Kp.mk ((hb22.block _ (heap_lt HG6_21.out)).trans HG6_21.out)
  have HG7_22 := Kp.mk ((hb22.block _ (heap_lt HG7_21.out)).trans HG7_21.out)
  have HXC_22 := Kp.mk (Kd.C_below HXC_21.out hb22)
  have HDC_22 := Kp.mk (Kd.C_below HDC_21.out hb22)
  have HV1_22 := Kp.mk (erK.K_below hb22 HV1_21.out)
  have N2_22 := Kp.mk ((hb22.block _ (heap_lt N2_21.out)).trans N2_21.out)
  have N4_22 := Kp.mk ((hb22.block _ (heap_lt N4_21.out)).trans N4_21.out)
  have E4_22 := Kp.mk ((hb22.block _ (heap_lt E4_21.out)).trans E4_21.out)
  have HV5_22 := Kp.mk (erK.K_below hb22 HV5_21.out)
  have HC5_22 := Kp.mk (Kd.C_below HC5_21.out hb22)
  have N6_22 := Kp.mk ((hb22.block _ (heap_lt N6_21.out)).trans N6_21.out)
  have HC7_22 := Kp.mk (Kd.C_below HC7_21.out hb22)
  have N8_22 := Kp.mk ((hb22.block _ (heap_lt N8_21.out)).trans N8_21.out)
  have E8_22 := Kp.mk ((hb22.block _ (heap_lt E8_21.out)).trans E8_21.out)
  have HV9_22 := Kp.mk (erK.K_below hb22 HV9_21.out)
  have HC9_22 := Kp.mk (Kd.C_below HC9_21.out hb22)
  have HC10_22 := Kp.mk (Kd.C_below HC10_21.out hb22)
  have N11_22 := Kp.mk ((hb22.block _ (heap_lt N11_21.out)).trans N11_21.out)
  have HV12_22 := Kp.mk (erK.K_below hb22 HV12_21.out)
  have HC12_22 := Kp.mk (Kd.C_below HC12_21.out hb22)
  have HC13_22 := Kp.mk (Kd.C_below HC13_21.out hb22)
  have N14_22 := Kp.mk ((hb22.block _ (heap_lt N14_21.out)).trans N14_21.out)
  clear HS_21 HG6_21 HG7_21 HXC_21 HDC_21 HV1_21 N2_21 N4_21 E4_21 HV5_21 HC5_21 N6_21 HC7_21 N8_21 E8_21 HV9_21 HC9_21 HC10_21 N11_21 HV12_21 HC12_21 HC13_21 N14_21
  refine ⟨_, rfl, ?_⟩
  refine hK.out _ _ ⟨(hb22.block _ (heap_lt (hHeld.1))).trans (hHeld.1), (hb22.block _ (heap_lt (hHeld.2.1))).trans (hHeld.2.1), (hb22.block _ (heap_lt (hHeld.2.2.1))).trans (hHeld.2.2.1), (hb22.block _ (heap_lt (hHeld.2.2.2.1))).trans (hHeld.2.2.2.1), (hb22.block _ (heap_lt (hHeld.2.2.2.2.1))).trans (hHeld.2.2.2.2.1), (hb22.block _ (heap_lt (hHeld.2.2.2.2.2.1))).trans (hHeld.2.2.2.2.2.1), (hb22.block _ (heap_lt (hHeld.2.2.2.2.2.2.1))).trans (hHeld.2.2.2.2.2.2.1), (hb22.block _ (heap_lt (hHeld.2.2.2.2.2.2.2.1))).trans (hHeld.2.2.2.2.2.2.2.1), (hb22.block _ (heap_lt (hHeld.2.2.2.2.2.2.2.2))).trans (hHeld.2.2.2.2.2.2.2.2)⟩ (fun hHeld => ?_)
  clear hK K hb22
  refine norm_ (a' := ?_) ?_ ?_
  rotate_left
  · show Act.put _ (some 145) _ = _
    simp only [Act.put, List.setIfInBounds_toArray, List.set_cons_zero, List.set_cons_succ, i64_w, i32_w]
    rfl
  refine pure_ (i := 45) (N := some 146) (v := ?_) (a' := ?_) #[true, true, true, true, true, true, true, true, true, true, true, true, true, true, true, true, true, true, true, true, true, true, true, true, true, true, true, true, true, true, true, true, true, true, true, true, true, true, true, true, true, true, true, true, true, true, false, false, false, false, false, false, false, false, false, false, false, false, false] rfl rfl (by kernel_rfl) (fun _ _ _ h => h) (Or.inl ⟨by rfl, ?_⟩) ?_ ?_
  rotate_left
  · intro w'
    go_simp
    with_reducible rfl
  rotate_left
  · simp only [Act.put, List.setIfInBounds_toArray, List.set_cons_zero, List.set_cons_succ, i64_w, i32_w]
    rfl
  refine pure_ (i := 46) (N := some 147) (v := ?_) (a' := ?_) #[true, true, true, true, true, true, true, true, true, true, true, true, true, true, true, true, true, true, true, true, true, true, true, true, true, true, true, true, true, true, true, true, true, true, true, true, true, true, true, true, true, true, true, true, true, true, true, false, false, false, false, false, false, false, false, false, false, false, false] rfl rfl (by kernel_rfl) (fun _ _ _ h => h) (Or.inl ⟨by rfl, ?_⟩) ?_ ?_
  rotate_left
  · intro w'
    go_simp
    with_reducible rfl
  rotate_left
  · simp only [Act.put, List.setIfInBounds_toArray, List.set_cons_zero, List.set_cons_succ, i64_w, i32_w]
    rfl
  refine pure_ (i := 47) (N := some 148) (v := ?_) (a' := ?_) #[true, true, true, true, true, true, true, true, true, true, true, true, true, true, true, true, true, true, true, true, true, true, true, true, true, true, true, true, true, true, true, true, true, true, true, true, true, true, true, true, true, true, true, true, true, true, true, true, false, false, false, false, false, false, false, false, false, false, false] rfl rfl (by kernel_rfl) (fun _ _ _ h => h) (Or.inl ⟨by rfl, ?_⟩) ?_ ?_
  rotate_left
  · intro w'
    go_simp
    with_reducible rfl
  rotate_left
  · simp only [Act.put, List.setIfInBounds_toArray, List.set_cons_zero, List.set_cons_succ, i64_w, i32_w]
    rfl
  refine take_blk (v := .agg #[.int .i64 i1, .int .i64 i2, .bool i3]) (i := 48) (N := some 149) (a' := ?_) #[true, true, true, true, true, true, true, true, true, true, true, true, true, true, true, true, true, true, true, true, true, true, true, true, true, true, true, true, true, true, true, true, true, true, true, true, true, true, true, true, true, true, true, true, true, true, true, true, true, false, false, false, false, false, false, false, false, false, false] rfl rfl (by kernel_rfl) (fun _ _ _ h => h) (by rfl) 38 (.tmp 28) rfl w13.heap.size (by rfl) #[.int .i64 i1, .int .i64 i2, .bool i3] rfl (fun _ h => h.2.2.2.2.2.2.2.2) Tryz.underlying38 rfl (by kernel_rfl) hHeld ?_ ?_
  rotate_left
  · simp only [Act.put, List.setIfInBounds_toArray, List.set_cons_zero, List.set_cons_succ, i64_w, i32_w]
    rfl
  refine one_ (i := 49) (N := some 150) #[true, true, true, true, true, true, true, true, true, true, true, true, true, true, true, true, true, true, true, true, true, true, true, true, true, true, true, true, true, true, true, true, true, true, true, true, true, true, true, true, true, true, true, true, true, true, true, true, true, true, false, false, false, false, false, false, false, false, false] rfl rfl (by kernel_rfl) (by decide) (fun K hK => ?_)
  refine goes_ Tryz.func19 (by kernel_rfl) rfl #[v12, .agg #[.int .i64 i1, .int .i64 i2, .bool i3]] (by rfl) rfl rfl (by (try simp only [List.map_toArray, List.map_cons, List.map_nil]); first | done | rfl) ?_
  with_reducible refine (HI4.out _ _ HV12_22.out HS_22.out.env).mono ?_
  rintro e w23 ⟨rfl, hb23⟩
  have HS_23 := Kp.mk (HS_22.out.step hb23)
  have HG6_23 := Kp.mk ((hb23.block _ (heap_lt HG6_22.out)).trans HG6_22.out)
  have HG7_23 := Kp.mk ((hb23.block _ (heap_lt HG7_22.out)).trans HG7_22.out)
  have HXC_23 := Kp.mk (Kd.C_below HXC_22.out hb23)
  have HDC_23 := Kp.mk (Kd.C_below HDC_22.out hb23)
  have HV1_23 := Kp.mk (erK.K_below hb23 HV1_22.out)
  have N2_23 := Kp.mk ((hb23.block _ (heap_lt N2_22.out)).trans N2_22.out)
  have N4_23 := Kp.mk ((hb23.block _ (heap_lt N4_22.out)).trans N4_22.out)
  have E4_23 := Kp.mk ((hb23.block _ (heap_lt E4_22.out)).trans E4_22.out)
  have HV5_23 := Kp.mk (erK.K_below hb23 HV5_22.out)
  have HC5_23 := Kp.mk (Kd.C_below HC5_22.out hb23)
  have N6_23 := Kp.mk ((hb23.block _ (heap_lt N6_22.out)).trans N6_22.out)
  have HC7_23 := Kp.mk (Kd.C_below HC7_22.out hb23)
  have N8_23 := Kp.mk ((hb23.block _ (heap_lt N8_22.out)).trans N8_22.out)
  have E8_23 := Kp.mk ((hb23.block _ (heap_lt E8_22.out)).trans E8_22.out)
  have HV9_23 := Kp.mk (erK.K_below hb23 HV9_22.out)
  have HC9_23 := Kp.mk (Kd.C_below HC9_22.out hb23)
  have HC10_23 := Kp.mk (Kd.C_below HC10_22.out hb23)
  have N11_23 := Kp.mk ((hb23.block _ (heap_lt N11_22.out)).trans N11_22.out)
  have HV12_23 := Kp.mk (erK.K_below hb23 HV12_22.out)
  have HC12_23 := Kp.mk (Kd.C_below HC12_22.out hb23)
  have HC13_23 := Kp.mk (Kd.C_below HC13_22.out hb23)
  have N14_23 := Kp.mk ((hb23.block _ (heap_lt N14_22.out)).trans N14_22.out)
  clear HS_22 HG6_22 HG7_22 HXC_22 HDC_22 HV1_22 N2_22 N4_22 E4_22 HV5_22 HC5_22 N6_22 HC7_22 N8_22 E8_22 HV9_22 HC9_22 HC10_22 N11_22 HV12_22 HC12_22 HC13_22 N14_22
  refine ⟨_, rfl, ?_⟩
  refine hK.out _ _ ⟨(hb23.block _ (heap_lt (hHeld.1))).trans (hHeld.1), (hb23.block _ (heap_lt (hHeld.2.1))).trans (hHeld.2.1), (hb23.block _ (heap_lt (hHeld.2.2.1))).trans (hHeld.2.2.1), (hb23.block _ (heap_lt (hHeld.2.2.2.1))).trans (hHeld.2.2.2.1), (hb23.block _ (heap_lt (hHeld.2.2.2.2.1))).trans (hHeld.2.2.2.2.1), (hb23.block _ (heap_lt (hHeld.2.2.2.2.2.1))).trans (hHeld.2.2.2.2.2.1), (hb23.block _ (heap_lt (hHeld.2.2.2.2.2.2.1))).trans (hHeld.2.2.2.2.2.2.1), (hb23.block _ (heap_lt (hHeld.2.2.2.2.2.2.2.1))).trans (hHeld.2.2.2.2.2.2.2.1), (hb23.block _ (heap_lt (hHeld.2.2.2.2.2.2.2.2))).trans (hHeld.2.2.2.2.2.2.2.2)⟩ (fun hHeld => ?_)
  clear hK K hb23
  refine norm_ (a' := ?_) ?_ ?_
  rotate_left
  · show Act.put _ (some 150) _ = _
    simp only [Act.put, List.setIfInBounds_toArray, List.set_cons_zero, List.set_cons_succ, i64_w, i32_w]
    rfl
  refine pure_ (i := 50) (N := some 151) (v := ?_) (a' := ?_) #[true, true, true, true, true, true, true, true, true, true, true, true, true, true, true, true, true, true, true, true, true, true, true, true, true, true, true, true, true, true, true, true, true, true, true, true, true, true, true, true, true, true, true, true, true, true, true, true, true, true, true, false, false, false, false, false, false, false, false] rfl rfl (by kernel_rfl) (fun _ _ _ h => h) (Or.inl ⟨by rfl, ?_⟩) ?_ ?_
  rotate_left
  · intro w'
    go_simp
    with_reducible rfl
  rotate_left
  · simp only [Act.put, List.setIfInBounds_toArray, List.set_cons_zero, List.set_cons_succ, i64_w, i32_w]
    rfl
  refine pure_ (i := 51) (N := some 152) (v := ?_) (a' := ?_) #[true, true, true, true, true, true, true, true, true, true, true, true, true, true, true, true, true, true, true, true, true, true, true, true, true, true, true, true, true, true, true, true, true, true, true, true, true, true, true, true, true, true, true, true, true, true, true, true, true, true, true, true, false, false, false, false, false, false, false] rfl rfl (by kernel_rfl) (fun _ _ _ h => h) (Or.inl ⟨by rfl, ?_⟩) ?_ ?_
  rotate_left
  · intro w'
    go_simp
    with_reducible rfl
  rotate_left
  · simp only [Act.put, List.setIfInBounds_toArray, List.set_cons_zero, List.set_cons_succ, i64_w, i32_w]
    rfl
  refine take_blk (v := .agg C6) (i := 52) (N := some 153) (a' := ?_) #[true, true, true, true, true, true, true, true, true, true, true, true, true, true, true, true, true, true, true, true, true, true, true, true, true, true, true, true, true, true, true, true, true, true, true, true, true, true, true, true, true, true, true, true, true, true, true, true, true, true, true, true, true, false, false, false, false, false, false] rfl rfl (by kernel_rfl) (fun _ _ _ h => h) (by rfl) 28 (.tmp 6) rfl w.heap.size (by rfl) C6 rfl (fun _ h => h.1) Tryz.underlying28 rfl Y6.out hHeld ?_ ?_
  rotate_left
  · simp only [Act.put, List.setIfInBounds_toArray, List.set_cons_zero, List.set_cons_succ, i64_w, i32_w]
    rfl
  refine take_blk (v := .agg C6) (i := 54) (N := some 155) (a' := ?_) #[true, true, true, true, true, true, true, true, true, true, true, true, true, true, true, true, true, true, true, true, true, true, true, true, true, true, true, true, true, true, true, true, true, true, true, true, true, true, true, true, true, true, true, true, true, true, true, true, true, true, true, true, true, false, true, false, false, false, false] rfl rfl (by kernel_rfl) (fun _ _ _ h => h) (by rfl) 28 (.tmp 6) rfl w.heap.size (by rfl) C6 rfl (fun _ h => h.1) Tryz.underlying28 rfl Y6.out hHeld ?_ ?_
  rotate_left
  · simp only [Act.put, List.setIfInBounds_toArray, List.set_cons_zero, List.set_cons_succ, i64_w, i32_w]
    rfl
  refine one_ (i := 53) (N := some 154) #[true, true, true, true, true, true, true, true, true, true, true, true, true, true, true, true, true, true, true, true, true, true, true, true, true, true, true, true, true, true, true, true, true, true, true, true, true, true, true, true, true, true, true, true, true, true, true, true, true, true, true, true, true, true, true, false, false, false, false] rfl rfl (by kernel_rfl) (by decide) (fun K hK => ?_)
  refine goes_ Tryz.func22 (by kernel_rfl) rfl #[.agg C6] (by rfl) rfl rfl (by (try simp only [List.map_toArray, List.map_cons, List.map_nil]); first | done | rfl) ?_
  with_reducible refine (HG1.out _ HS_23.out.env).mono ?_
  rintro e w24 ⟨rfl, hb24⟩
  have HS_24 := Kp.mk (HS_23.out.step hb24)
  have HG6_24 := Kp.mk ((hb24.block _ (heap_lt HG6_23.out)).trans HG6_23.out)
  have HG7_24 := Kp.mk ((hb24.block _ (heap_lt HG7_23.out)).trans HG7_23.out)
  have HXC_24 := Kp.mk (Kd.C_below HXC_23.out hb24)
  have HDC_24 := Kp.mk (Kd.C_below HDC_23.out hb24)
  have HV1_24 := Kp.mk (erK.K_below hb24 HV1_23.out)
  have N2_24 := Kp.mk ((hb24.block _ (heap_lt N2_23.out)).trans N2_23.out)
  have N4_24 := Kp.mk ((hb24.block _ (heap_lt N4_23.out)).trans N4_23.out)
  have E4_24 := Kp.mk ((hb24.block _ (heap_lt E4_23.out)).trans E4_23.out)
  have HV5_24 := Kp.mk (erK.K_below hb24 HV5_23.out)
  have HC5_24 := Kp.mk (Kd.C_below HC5_23.out hb24)
  have N6_24 := Kp.mk ((hb24.block _ (heap_lt N6_23.out)).trans N6_23.out)
  have HC7_24 := Kp.mk (Kd.C_below HC7_23.out hb24)
  have N8_24 := Kp.mk ((hb24.block _ (heap_lt N8_23.out)).trans N8_23.out)
  have E8_24 := Kp.mk ((hb24.block _ (heap_lt E8_23.out)).trans E8_23.out)
  have HV9_24 := Kp.mk (erK.K_below hb24 HV9_23.out)
  have HC9_24 := Kp.mk (Kd.C_below HC9_23.out hb24)
  have HC10_24 := Kp.mk (Kd.C_below HC10_23.out hb24)
  have N11_24 := Kp.mk ((hb24.block _ (heap_lt N11_23.out)).trans N11_23.out)
  have HV12_24 := Kp.mk (erK.K_below hb24 HV12_23.out)
  have HC12_24 := Kp.mk (Kd.C_below HC12_23.out hb24)
  have HC13_24 := Kp.mk (Kd.C_below HC13_23.out hb24)
  have N14_24 := Kp.mk ((hb24.block _ (heap_lt N14_23.out)).trans N14_23.out)
  clear HS_23 HG6_23 HG7_23 HXC_23 HDC_23 HV1_23 N2_23 N4_23 E4_23 HV5_23 HC5_23 N6_23 HC7_23 N8_23 E8_23 HV9_23 HC9_23 HC10_23 N11_23 HV12_23 HC12_23 HC13_23 N14_23
  refine ⟨_, rfl, ?_⟩
  refine hK.out _ _ ⟨(hb24.block _ (heap_lt (hHeld.1))).trans (hHeld.1), (hb24.block _ (heap_lt (hHeld.2.1))).trans (hHeld.2.1), (hb24.block _ (heap_lt (hHeld.2.2.1))).trans (hHeld.2.2.1), (hb24.block _ (heap_lt (hHeld.2.2.2.1))).trans (hHeld.2.2.2.1), (hb24.block _ (heap_lt (hHeld.2.2.2.2.1))).trans (hHeld.2.2.2.2.1), (hb24.block _ (heap_lt (hHeld.2.2.2.2.2.1))).trans (hHeld.2.2.2.2.2.1), (hb24.block _ (heap_lt (hHeld.2.2.2.2.2.2.1))).trans (hHeld.2.2.2.2.2.2.1), (hb24.block _ (heap_lt (hHeld.2.2.2.2.2.2.2.1))).trans (hHeld.2.2.2.2.2.2.2.1), (hb24.block _ (heap_lt (hHeld.2.2.2.2.2.2.2.2))).trans (hHeld.2.2.2.2.2.2.2.2)⟩ (fun hHeld => ?_)
  clear hK K hb24
  refine norm_ (a' := ?_) ?_ ?_
  rotate_left
  · show Act.put _ (some 154) _ = _
    simp only [Act.put, List.setIfInBounds_toArray, List.set_cons_zero, List.set_cons_succ, i64_w, i32_w]
    rfl
  refine one_ (i := 55) (N := some 156) #[true, true, true, true, true, true, true, true, true, true, true, true, true, true, true, true, true, true, true, true, true, true, true, true, true, true, true, true, true, true, true, true, true, true, true, true, true, true, true, true, true, true, true, true, true, true, true, true, true, true, true, true, true, true, true, true, false, false, false] rfl rfl (by kernel_rfl) (by decide) (fun K hK => ?_)
  refine goes_ Tryz.func23 (by kernel_rfl) rfl #[.agg C6] (by rfl) rfl rfl (by (try simp only [List.map_toArray, List.map_cons, List.map_nil]); first | done | rfl) ?_
  with_reducible refine (HG2.out _).mono ?_
  rintro e w25 ⟨rfl, hb25⟩
  have HS_25 := Kp.mk (HS_24.out.step hb25)
  have HG6_25 := Kp.mk ((hb25.block _ (heap_lt HG6_24.out)).trans HG6_24.out)
  have HG7_25 := Kp.mk ((hb25.block _ (heap_lt HG7_24.out)).trans HG7_24.out)
  have HXC_25 := Kp.mk (Kd.C_below HXC_24.out hb25)
  have HDC_25 := Kp.mk (Kd.C_below HDC_24.out hb25)
  have HV1_25 := Kp.mk (erK.K_below hb25 HV1_24.out)
  have N2_25 := Kp.mk ((hb25.block _ (heap_lt N2_24.out)).trans N2_24.out)
  have N4_25 := Kp.mk ((hb25.block _ (heap_lt N4_24.out)).trans N4_24.out)
  have E4_25 := Kp.mk ((hb25.block _ (heap_lt E4_24.out)).trans E4_24.out)
  have HV5_25 := Kp.mk (erK.K_below hb25 HV5_24.out)
  have HC5_25 := Kp.mk (Kd.C_below HC5_24.out hb25)
  have N6_25 := Kp.mk ((hb25.block _ (heap_lt N6_24.out)).trans N6_24.out)
  have HC7_25 := Kp.mk (Kd.C_below HC7_24.out hb25)
  have N8_25 := Kp.mk ((hb25.block _ (heap_lt N8_24.out)).trans N8_24.out)
  have E8_25 := Kp.mk ((hb25.block _ (heap_lt E8_24.out)).trans E8_24.out)
  have HV9_25 := Kp.mk (erK.K_below hb25 HV9_24.out)
  have HC9_25 := Kp.mk (Kd.C_below HC9_24.out hb25)
  have HC10_25 := Kp.mk (Kd.C_below HC10_24.out hb25)
  have N11_25 := Kp.mk ((hb25.block _ (heap_lt N11_24.out)).trans N11_24.out)
  have HV12_25 := Kp.mk (erK.K_below hb25 HV12_24.out)
  have HC12_25 := Kp.mk (Kd.C_below HC12_24.out hb25)
  have HC13_25 := Kp.mk (Kd.C_below HC13_24.out hb25)
  have N14_25 := Kp.mk ((hb25.block _ (heap_lt N14_24.out)).trans N14_24.out)
  clear HS_24 HG6_24 HG7_24 HXC_24 HDC_24 HV1_24 N2_24 N4_24 E4_24 HV5_24 HC5_24 N6_24 HC7_24 N8_24 E8_24 HV9_24 HC9_24 HC10_24 N11_24 HV12_24 HC12_24 HC13_24 N14_24
  refine ⟨_, rfl, ?_⟩
  refine hK.out _ _ ⟨(hb25.block _ (heap_lt (hHeld.1))).trans (hHeld.1), (hb25.block _ (heap_lt (hHeld.2.1))).trans (hHeld.2.1), (hb25.block _ (heap_lt (hHeld.2.2.1))).trans (hHeld.2.2.1), (hb25.block _ (heap_lt (hHeld.2.2.2.1))).trans (hHeld.2.2.2.1), (hb25.block _ (heap_lt (hHeld.2.2.2.2.1))).trans (hHeld.2.2.2.2.1), (hb25.block _ (heap_lt (hHeld.2.2.2.2.2.1))).trans (hHeld.2.2.2.2.2.1), (hb25.block _ (heap_lt (hHeld.2.2.2.2.2.2.1))).trans (hHeld.2.2.2.2.2.2.1), (hb25.block _ (heap_lt (hHeld.2.2.2.2.2.2.2.1))).trans (hHeld.2.2.2.2.2.2.2.1), (hb25.block _ (heap_lt (hHeld.2.2.2.2.2.2.2.2))).trans (hHeld.2.2.2.2.2.2.2.2)⟩ (fun hHeld => ?_)
  clear hK K hb25
  refine norm_ (a' := ?_) ?_ ?_
  rotate_left
  · show Act.put _ (some 156) _ = _
    simp only [Act.put, List.setIfInBounds_toArray, List.set_cons_zero, List.set_cons_succ, i64_w, i32_w]
    rfl
  refine pure_ (i := 56) (N := some 157) (v := ?_) (a' := ?_) #[true, true, true, true, true, true, true, true, true, true, true, true, true, true, true, true, true, true, true, true, true, true, true, true, true, true, true, true, true, true, true, true, true, true, true, true, true, true, true, true, true, true, true, true, true, true, true, true, true, true, true, true, true, true, true, true, true, false, false] rfl rfl (by kernel_rfl) (fun _ _ _ h => h) (Or.inl ⟨by rfl, ?_⟩) ?_ ?_
  rotate_left
  · intro w'
    go_simp
    with_reducible rfl
  rotate_left
  · simp only [Act.put, List.setIfInBounds_toArray, List.set_cons_zero, List.set_cons_succ, i64_w, i32_w]
    rfl
  refine pure_ (i := 57) (N := some 158) (v := ?_) (a' := ?_) #[true, true, true, true, true, true, true, true, true, true, true, true, true, true, true, true, true, true, true, true, true, true, true, true, true, true, true, true, true, true, true, true, true, true, true, true, true, true, true, true, true, true, true, true, true, true, true, true, true, true, true, true, true, true, true, true, true, true, false] rfl rfl (by kernel_rfl) (fun _ _ _ h => h) (Or.inl ⟨by rfl, ?_⟩) ?_ ?_
  rotate_left
  · intro w'
    go_simp
    with_reducible rfl
  rotate_left
  · simp only [Act.put, List.setIfInBounds_toArray, List.set_cons_zero, List.set_cons_succ, i64_w, i32_w]
    rfl
  refine pure_ (i := 58) (N := some 8) (v := ?_) (a' := ?_) #[true, true, true, true, true, true, true, true, true, true, true, true, true, true, true, true, true, true, true, true, true, true, true, true, true, true, true, true, true, true, true, true, true, true, true, true, true, true, true, true, true, true, true, true, true, true, true, true, true, true, true, true, true, true, true, true, true, true, true] rfl rfl (by kernel_rfl) (fun _ _ _ h => h) (Or.inl ⟨by rfl, ?_⟩) ?_ ?_
  rotate_left
  · intro w'
    go_simp
    with_reducible rfl
  rotate_left
  · simp only [Act.put, List.setIfInBounds_toArray, List.set_cons_zero, List.set_cons_succ, i64_w, i32_w]
    rfl
  refine done_ (by kernel_rfl) ?_
  go_wp2
  go_ret
  exact ⟨by simp, HS_25.out.below⟩
theorem recordTells_g1 (w : World) (A0 : Option Addr) (c0 : Nat) (xs : List Int) (hC0 : (Kd.int .u8).C w A0 xs.length xs) (hc0 : xs.length ≤ c0) (hm0 : c0 ≤ 9223372036854775807) (hx : Byts xs) (a : Int) (ha1 : -9223372036854775808 ≤ a) (ha2 : a ≤ 9223372036854775807) (r : Rec) (A : Option Addr) (c : Nat) (hC : (Kd.int .u8).C w A r.data.length r.data) (hc : r.data.length ≤ c) (hw : r.fitR) (q : Qu) (hqf : q.fitR) (hlx : ¬ xs.length ≤ 1500) (hE : Env w) :
    Calls Tryz.prog 3 #[.slice A0 xs.length c0, .int .i64 a, .agg (recA r (.slice A r.data.length c)), .agg #[.string (mkB q.name), .int .i64 q.typ, .int .i64 q.cls]] w fun e w' => e = .returned (.bool true) ∧ Below w.heap.size w w' := by
  have hnm := hw.name
  have htg := hw.tgt
  have hqn := hqf.name
  obtain ⟨qn, qt, qc⟩ := q
  have hbn : (mkB r.name).size = r.name.length := mkB_size _
  have hbt : (mkB r.tgt).size = r.tgt.length := mkB_size _
  have hbq : (mkB qn).size = qn.length := mkB_size _
  obtain ⟨sq, hsq⟩ : ∃ d, mkB qn = d := ⟨_, rfl⟩
  show Calls Tryz.prog 3 #[.slice A0 xs.length c0, .int .i64 a, .agg (recA r (.slice A r.data.length c)), .agg #[.string (mkB qn), .int .i64 qt, .int .i64 qc]] w fun e w' => e = .returned (.bool true) ∧ Below w.heap.size w w'
  rw [hsq] at hbq ⊢
  obtain ⟨C6, hC6⟩ : ∃ C, recA r (.slice A r.data.length c) = C := ⟨_, rfl⟩
  have x0 : C6[0]? = some (.string (mkB r.name)) := by rw [← hC6]; rfl
  have x21 : C6[21]? = some (.string (mkB r.tgt)) := by rw [← hC6]; rfl
  have x22 : C6[22]? = some (.slice A r.data.length c) := by rw [← hC6]; rfl
  rw [hC6]
  obtain ⟨rd, hrd⟩ : ∃ d, r.data = d := ⟨_, rfl⟩
  obtain ⟨sn, hsn⟩ : ∃ d, mkB r.name = d := ⟨_, rfl⟩
  obtain ⟨st, hst⟩ : ∃ d, mkB r.tgt = d := ⟨_, rfl⟩
  have b1 : decide ((1500 : Int) < (xs.length : Int)) = true := by simp; omega
  rw [hrd] at x22
  rw [hsn] at x0
  rw [hst] at x21
  have HSx := St.start hE
  have HS_0 := Kp.mk ((HSx.alloc (.cells C6 28)).alloc (.cells #[.string sq, .int .i64 qt, .int .i64 qc] 30))
  obtain ⟨t0, t1, -⟩ := two_new w (.cells C6 28) (.cells #[.string sq, .int .i64 qt, .int .i64 qc] 30)
  have d0 := blk_cell t0 0
  have d21 := blk_cell t0 21
  have d22 := blk_cell t0 22
  have dq := blk_cell t1 0
  rw [x0] at d0
  rw [x21] at d21
  rw [x22] at d22
  clear hbn hbt hbq hC6 x0 x21 x22 hrd hsn hst hsq HSx t0 t1 hC0 hC hE hw hqf hm0 hx ha1 ha2 hnm htg hqn hlx
  go_enter Tryz.func3, Tryz.ntmps3
  go_wp2_with (fail)
  refine b_ (awake13_calls _ HS_0.out.env) HS_0 ?_
  intro w1 HB1 HS1
  go_wp2
  go_ret
  exact ⟨rfl, HS1.out.below⟩
theorem recordTells_g2 (w : World) (A0 : Option Addr) (c0 : Nat) (xs : List Int) (hC0 : (Kd.int .u8).C w A0 xs.length xs) (hc0 : xs.length ≤ c0) (hm0 : c0 ≤ 9223372036854775807) (hx : Byts xs) (a : Int) (ha1 : -9223372036854775808 ≤ a) (ha2 : a ≤ 9223372036854775807) (r : Rec) (A : Option Addr) (c : Nat) (hC : (Kd.int .u8).C w A r.data.length r.data) (hc : r.data.length ≤ c) (hw : r.fitR) (q : Qu) (hqf : q.fitR) (hlx : xs.length ≤ 1500) (hld : ¬ r.data.length ≤ 1500) (hE : Env w) :
    Calls Tryz.prog 3 #[.slice A0 xs.length c0, .int .i64 a, .agg (recA r (.slice A r.data.length c)), .agg #[.string (mkB q.name), .int .i64 q.typ, .int .i64 q.cls]] w fun e w' => e = .returned (.bool true) ∧ Below w.heap.size w w' := by
  have hnm := hw.name
  have htg := hw.tgt
  have hqn := hqf.name
  obtain ⟨qn, qt, qc⟩ := q
  have hbn : (mkB r.name).size = r.name.length := mkB_size _
  have hbt : (mkB r.tgt).size = r.tgt.length := mkB_size _
  have hbq : (mkB qn).size = qn.length := mkB_size _
  obtain ⟨sq, hsq⟩ : ∃ d, mkB qn = d := ⟨_, rfl⟩
  show Calls Tryz.prog 3 #[.slice A0 xs.length c0, .int .i64 a, .agg (recA r (.slice A r.data.length c)), .agg #[.string (mkB qn), .int .i64 qt, .int .i64 qc]] w fun e w' => e = .returned (.bool true) ∧ Below w.heap.size w w'
  rw [hsq] at hbq ⊢
  obtain ⟨C6, hC6⟩ : ∃ C, recA r (.slice A r.data.length c) = C := ⟨_, rfl⟩
  have x0 : C6[0]? = some (.string (mkB r.name)) := by rw [← hC6]; rfl
  have x21 : C6[21]? = some (.string (mkB r.tgt)) := by rw [← hC6]; rfl
  have x22 : C6[22]? = some (.slice A r.data.length c) := by rw [← hC6]; rfl
  rw [hC6]
  obtain ⟨rd, hrd⟩ : ∃ d, r.data = d := ⟨_, rfl⟩
  obtain ⟨sn, hsn⟩ : ∃ d, mkB r.name = d := ⟨_, rfl⟩
  obtain ⟨st, hst⟩ : ∃ d, mkB r.tgt = d := ⟨_, rfl⟩
  have b1 : decide ((1500 : Int) < (xs.length : Int)) = false := by simp; omega
  have b2 : decide ((1500 : Int) < (rd.length : Int)) = true := by rw [← hrd]; simp; omega
  rw [hrd] at x22
  rw [hsn] at x0
  rw [hst] at x21
  have HSx := St.start hE
  have HS_0 := Kp.mk ((HSx.alloc (.cells C6 28)).alloc (.cells #[.string sq, .int .i64 qt, .int .i64 qc] 30))
  obtain ⟨t0, t1, -⟩ := two_new w (.cells C6 28) (.cells #[.string sq, .int .i64 qt, .int .i64 qc] 30)
  have d0 := blk_cell t0 0
  have d21 := blk_cell t0 21
  have d22 := blk_cell t0 22
  have dq := blk_cell t1 0
  rw [x0] at d0
  rw [x21] at d21
  rw [x22] at d22
  clear hbn hbt hbq hC6 x0 x21 x22 hrd hsn hst hsq HSx t0 t1 hC0 hC hE hw hqf hm0 hx ha1 ha2 hnm htg hqn hlx hld
  go_enter Tryz.func3, Tryz.ntmps3
  go_wp2_with (fail)
  refine b_ (awake13_calls _ HS_0.out.env) HS_0 ?_
  intro w1 HB1 HS1
  go_wp2
  go_ret
  exact ⟨rfl, HS1.out.below⟩
theorem recordTells_g3 (w : World) (A0 : Option Addr) (c0 : Nat) (xs : List Int) (hC0 : (Kd.int .u8).C w A0 xs.length xs) (hc0 : xs.length ≤ c0) (hm0 : c0 ≤ 9223372036854775807) (hx : Byts xs) (a : Int) (ha1 : -9223372036854775808 ≤ a) (ha2 : a ≤ 9223372036854775807) (r : Rec) (A : Option Addr) (c : Nat) (hC : (Kd.int .u8).C w A r.data.length r.data) (hc : r.data.length ≤ c) (hw : r.fitR) (q : Qu) (hqf : q.fitR) (hlx : xs.length ≤ 1500) (hld : r.data.length ≤ 1500) (hln : ¬ r.name.length + r.tgt.length + q.name.length ≤ 1500) (hE : Env w) :
    Calls Tryz.prog 3 #[.slice A0 xs.length c0, .int .i64 a, .agg (recA r (.slice A r.data.length c)), .agg #[.string (mkB q.name), .int .i64 q.typ, .int .i64 q.cls]] w fun e w' => e = .returned (.bool true) ∧ Below w.heap.size w w' := by
  have hnm := hw.name
  have htg := hw.tgt
  have hqn := hqf.name
  obtain ⟨qn, qt, qc⟩ := q
  have hbn : (mkB r.name).size = r.name.length := mkB_size _
  have hbt : (mkB r.tgt).size = r.tgt.length := mkB_size _
  have hbq : (mkB qn).size = qn.length := mkB_size _
  obtain ⟨sq, hsq⟩ : ∃ d, mkB qn = d := ⟨_, rfl⟩
  show Calls Tryz.prog 3 #[.slice A0 xs.length c0, .int .i64 a, .agg (recA r (.slice A r.data.length c)), .agg #[.string (mkB qn), .int .i64 qt, .int .i64 qc]] w fun e w' => e = .returned (.bool true) ∧ Below w.heap.size w w'
  rw [hsq] at hbq ⊢
  obtain ⟨C6, hC6⟩ : ∃ C, recA r (.slice A r.data.length c) = C := ⟨_, rfl⟩
  have x0 : C6[0]? = some (.string (mkB r.name)) := by rw [← hC6]; rfl
  have x21 : C6[21]? = some (.string (mkB r.tgt)) := by rw [← hC6]; rfl
  have x22 : C6[22]? = some (.slice A r.data.length c) := by rw [← hC6]; rfl
  rw [hC6]
  obtain ⟨rd, hrd⟩ : ∃ d, r.data = d := ⟨_, rfl⟩
  obtain ⟨sn, hsn⟩ : ∃ d, mkB r.name = d := ⟨_, rfl⟩
  obtain ⟨st, hst⟩ : ∃ d, mkB r.tgt = d := ⟨_, rfl⟩
  have b1 : decide ((1500 : Int) < (xs.length : Int)) = false := by simp; omega
  have b2 : decide ((1500 : Int) < (rd.length : Int)) = false := by rw [← hrd]; simp; omega
  rw [hsn] at hbn
  rw [hst] at hbt
  obtain ⟨ws1, ws2, b3⟩ := sum3' _ _ _ _ _ _ hbn hbt hbq hnm htg hqn hln
  rw [hrd] at x22
  rw [hsn] at x0
  rw [hst] at x21
  have HSx := St.start hE
  have HS_0 := Kp.mk ((HSx.alloc (.cells C6 28)).alloc (.cells #[.string sq, .int .i64 qt, .int .i64 qc] 30))
  obtain ⟨t0, t1, -⟩ := two_new w (.cells C6 28) (.cells #[.string sq, .int .i64 qt, .int .i64 qc] 30)
  have d0 := blk_cell t0 0
  have d21 := blk_cell t0 21
  have d22 := blk_cell t0 22
  have dq := blk_cell t1 0
  rw [x0] at d0
  rw [x21] at d21
  rw [x22] at d22
  clear hbn hbt hbq hC6 x0 x21 x22 hrd hsn hst hsq HSx t0 t1 hC0 hC hE hw hqf hm0 hx ha1 ha2 hnm htg hqn hlx hld hln
  go_enter Tryz.func3, Tryz.ntmps3
  go_wp2_with (fail)
  refine b_ (awake13_calls _ HS_0.out.env) HS_0 ?_
  intro w1 HB1 HS1
  go_wp2
  go_ret
  exact ⟨rfl, HS1.out.below⟩
theorem recordTells_walk (w : World) (A0 : Option Addr) (n0 c0 : Nat) (xs : List Int) (hC0 : (Kd.int .u8).C w A0 n0 xs) (hc0 : n0 ≤ c0) (hm0 : c0 ≤ 9223372036854775807) (hx : Byts xs) (a : Int) (ha1 : -9223372036854775808 ≤ a) (ha2 : a ≤ 9223372036854775807) (r : Rec) (A : Option Addr) (c : Nat) (hC : (Kd.int .u8).C w A r.data.length r.data) (hc : r.data.length ≤ c) (hw : r.fitR) (q : Qu) (hqf : q.fitR) (hE : Env w) :
    Calls Tryz.prog 3 #[.slice A0 n0 c0, .int .i64 a, .agg (recA r (.slice A r.data.length c)), .agg #[.string (mkB q.name), .int .i64 q.typ, .int .i64 q.cls]] w fun e w' => e = .returned (.bool true) ∧ Below w.heap.size w w' := by
  obtain rfl := (C_len hC0).1
  by_cases h1 : xs.length ≤ 1500
  · by_cases h2 : r.data.length ≤ 1500
    · by_cases h3 : r.name.length + r.tgt.length + q.name.length ≤ 1500
      · exact recordTells_main w A0 c0 xs hC0 hc0 hm0 hx a ha1 ha2 r A c hC hc hw q hqf h1 h2 h3 trivial (by omega) hE
      · exact recordTells_g3 w A0 c0 xs hC0 hc0 hm0 hx a ha1 ha2 r A c hC hc hw q hqf h1 h2 h3 hE
    · exact recordTells_g2 w A0 c0 xs hC0 hc0 hm0 hx a ha1 ha2 r A c hC hc hw q hqf h1 h2 hE
  · exact recordTells_g1 w A0 c0 xs hC0 hc0 hm0 hx a ha1 ha2 r A c hC hc hw q hqf h1 hE
end Go.Proofs.YtlkneoednkhleaaGreatDoor
