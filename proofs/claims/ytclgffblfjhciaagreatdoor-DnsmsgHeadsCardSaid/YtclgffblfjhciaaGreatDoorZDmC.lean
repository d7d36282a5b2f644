/-
  Package dnsmsg: Parse, by its contract.
-/
import Derived.Test.YtclgffblfjhciaaGreatDoorZDmB
import Derived.Deep.RegionHeld3
namespace Go.Proofs.YtclgffblfjhciaaGreatDoor
open Go.RowKit Go.Proofs.YtclgffblfjhciaaGreatDoorW.PrintWords
set_option linter.unusedVariables false
set_option linter.unusedSimpArgs false
set_option maxRecDepth 100000
set_option maxHeartbeats 4000000

def Msg.zero : Msg := ⟨0, false, 0, 0, 0, [], [], [], []⟩
/-- A count of the head. -/
def cntM (xs : List Int) (a : Int) : Nat := (numV xs a 2).toNat
def headM (xs : List Int) (b : Bod) : Msg := ⟨numV xs 0 2, numV xs 2 2 / 32768 == 1, numV xs 2 2 / 2048 % 16, numV xs 2 2 % 16, numV xs 2 2 / 16 % 128, b.1, b.2.1, b.2.2.1, b.2.2.2⟩
/-- A message, or why there is none. -/
def parseM (xs : List Int) : Msg × Er :=
  if 4000 < xs.length then (Msg.zero, .code 4)
  else if xs.length < 12 then (Msg.zero, .fault 0 3)
  else if 64 < cntM xs 4 + cntM xs 6 + cntM xs 8 + cntM xs 10 then (Msg.zero, .fault 4 4)
  else if (bodyR xs (cntM xs 4) (cntM xs 6) (cntM xs 8) (cntM xs 10)).2.2.placed = true then (Msg.zero, (bodyR xs (cntM xs 4) (cntM xs 6) (cntM xs 8) (cntM xs 10)).2.2)
  else if (bodyR xs (cntM xs 4) (cntM xs 6) (cntM xs 8) (cntM xs 10)).2.1 ≠ xs.length then (Msg.zero, .fault (bodyR xs (cntM xs 4) (cntM xs 6) (cntM xs 8) (cntM xs 10)).2.1 7)
  else (headM xs (bodyR xs (cntM xs 4) (cntM xs 6) (cntM xs 8) (cntM xs 10)).1, .none)
abbrev msgA (m : Msg) (v5 v6 v7 v8 : Value) : Array Value := #[.int .i64 m.id, .bool m.rp, .int .i64 m.op, .int .i64 m.co, .int .i64 m.fl, v5, v6, v7, v8]
structure MsgRows (w : World) (b : Nat) (m : Msg) (v5 v6 v7 v8 : Value) : Prop where
  qs : quK.R 54 w b (fun _ => True) v5 m.qs
  an : recK.R 37 w b (fun _ => True) v6 m.an
  au : recK.R 37 w b (fun _ => True) v7 m.au
  ex : recK.R 37 w b (fun _ => True) v8 m.ex
theorem MsgRows.zero (w : World) (b : Nat) : MsgRows w b Msg.zero (.slice none 0 0) (.slice none 0 0) (.slice none 0 0) (.slice none 0 0) := ⟨Kd.R_nil _ _ _ _ _, Kd.R_nil _ _ _ _ _, Kd.R_nil _ _ _ _ _, Kd.R_nil _ _ _ _ _⟩
def MsgPost (m : Msg) (er : Er) (w : World) (e : Ending) (w' : World) : Prop :=
  ∃ v5 v6 v7 v8 v, e = .returned (.tuple #[.agg (msgA m v5 v6 v7 v8), v]) ∧ MsgRows w' w.heap.size m v5 v6 v7 v8 ∧ erK.M w' w.heap.size (fun _ => True) er [v] ∧ Below w.heap.size w w'
theorem bodyR_err (xs : List Int) (n0 n1 n2 n3 : Nat) (h : (bodyR xs n0 n1 n2 n3).2.2 ≠ .none) : (bodyR xs n0 n1 n2 n3).2.1 = 0 := by
  unfold bodyR bodyR1 bodyR2 bodyR3 at h ⊢
  split <;> rename_i h1
  · rfl
  · rw [if_neg h1] at h
    split <;> rename_i h2
    · rfl
    · rw [if_neg h2] at h
      split <;> rename_i h3
      · rfl
      · rw [if_neg h3] at h
        split <;> rename_i h4
        · rfl
        · rw [if_neg h4] at h
          exact absurd rfl h
theorem put_msg0 (W : World) (g : Nat) (hg : W.heap[g]? = some (.cells #[.int .i64 0, .bool false, .int .i64 0, .int .i64 0, .int .i64 0, .slice none 0 0, .slice none 0 0, .slice none 0 0, .slice none 0 0] 71 (0, 0))) :
    (storeCells ⟨g, 0, none⟩ [.int .i64 0, .bool false, .int .i64 0, .int .i64 0, .int .i64 0, .slice none 0 0, .slice none 0 0, .slice none 0 0, .slice none 0 0] 0).run Tryz.prog W = .ok () (W.setRow g #[.int .i64 0, .bool false, .int .i64 0, .int .i64 0, .int .i64 0, .slice none 0 0, .slice none 0 0, .slice none 0 0, .slice none 0 0]) :=
  run_storeCells_from (P := Tryz.prog) g 71 [.int .i64 0, .bool false, .int .i64 0, .int .i64 0, .int .i64 0, .slice none 0 0, .slice none 0 0, .slice none 0 0, .slice none 0 0] 0 _ W hg rfl (fun v hv => by
    simp only [List.mem_cons, List.not_mem_nil, or_false] at hv
    rcases hv with rfl | rfl | rfl | rfl | rfl | rfl | rfl | rfl | rfl <;> rfl)
def cellsC (n0 n1 n2 n3 : Int) : Nat → Array Value
  | 0 => #[.int .i64 0, .int .i64 0, .int .i64 0, .int .i64 0]
  | 1 => #[.int .i64 n0, .int .i64 0, .int .i64 0, .int .i64 0]
  | 2 => #[.int .i64 n0, .int .i64 n1, .int .i64 0, .int .i64 0]
  | 3 => #[.int .i64 n0, .int .i64 n1, .int .i64 n2, .int .i64 0]
  | _ => #[.int .i64 n0, .int .i64 n1, .int .i64 n2, .int .i64 n3]
def sumC (n0 n1 n2 n3 : Int) : Nat → Int
  | 0 => 0
  | 1 => n0
  | 2 => n0 + n1
  | 3 => n0 + n1 + n2
  | _ => n0 + n1 + n2 + n3
structure CntW (w wr : World) (g0 gm gc : Nat) (hd : Array Value) (cs : Array Value) : Prop where
  st : St w wr
  res : wr.heap[g0]? = some (.cells #[.int .i64 0, .bool false, .int .i64 0, .int .i64 0, .int .i64 0, .slice none 0 0, .slice none 0 0, .slice none 0 0, .slice none 0 0] 71 (0, 0))
  msg : wr.heap[gm]? = some (.cells hd 71 (0, 0))
  cnt : wr.heap[gc]? = some (.cells cs 130 (0, 0))
theorem CntW.step {w wr w2 : World} {g0 gm gc : Nat} {hd cs : Array Value} (h : CntW w wr g0 gm gc hd cs) (hb : Below wr.heap.size wr w2) : CntW w w2 g0 gm gc hd cs :=
  ⟨h.st.step hb, (hb.block _ (heap_lt h.res)).trans h.res, (hb.block _ (heap_lt h.msg)).trans h.msg, (hb.block _ (heap_lt h.cnt)).trans h.cnt⟩
theorem CntW.put {w wr : World} {g0 gm gc : Nat} {hd cs cs' : Array Value} (h : CntW w wr g0 gm gc hd cs) (hE : Env w) (k : Nat) (v : Value) (hc : cs.setIfInBounds k v = cs') (h0 : w.heap.size ≤ gc) (h2 : g0 ≠ gc) (h1 : gm ≠ gc) : CntW w (wr.setCell ⟨gc, k, none⟩ v) g0 gm gc hd cs' := by
  have hb : Below w.heap.size w (wr.setCell ⟨gc, k, none⟩ v) := h.st.below.setCell (p := ⟨gc, k, none⟩) h0 v
  exact ⟨⟨hb, hE.below hb⟩, (Below.heap_setCell wr ⟨gc, k, none⟩ v _ h2).trans h.res, (Below.heap_setCell wr ⟨gc, k, none⟩ v _ h1).trans h.msg, blk_put h.cnt k v hc⟩

theorem and_mask4 (v : Int) (h0 : 0 ≤ v) (h1 : v < 65536) : bits .and .i64 v 15 = v % 16 := by
  obtain ⟨n, rfl⟩ := Int.eq_ofNat_of_zero_le h0
  have h := bits_mask .i64 16 (by decide) (fun n h0 h1 => IntWalk.i64_in n (by omega)) 4 (by decide) (n : Int) (by omega) (by omega)
  simpa using h
theorem and_mask7 (v : Int) (h0 : 0 ≤ v) (h1 : v < 65536) : bits .and .i64 v 127 = v % 128 := by
  obtain ⟨n, rfl⟩ := Int.eq_ofNat_of_zero_le h0
  have h := bits_mask .i64 16 (by decide) (fun n h0 h1 => IntWalk.i64_in n (by omega)) 7 (by decide) (n : Int) (by omega) (by omega)
  simpa using h
theorem St.outer {w wr : World} {o : Obj} (h : St (w.alloc o) wr) : Below w.heap.size w wr := ((Below.refl w.heap.size w).alloc (Nat.le_refl _) o).trans (h.below.mono (by simp))
theorem parse_calls (A : Option Addr) (c : Nat) (xs : List Int) (w : World) (m : Msg) (er : Er) (h : (Kd.int .u8).C w A xs.length xs) (hx8 : Byts xs) (hc : xs.length ≤ c) (hcm : c ≤ 9223372036854775807) (hE : Env w) (hr : parseM xs = (m, er)) :
    Calls Tryz.prog 37 #[.slice A xs.length c] w (MsgPost m er w) := by
  have HS := Kp.mk (St.start (env_alloc hE (.cells #[.int .i64 0, .bool false, .int .i64 0, .int .i64 0, .int .i64 0, .slice none 0 0, .slice none 0 0, .slice none 0 0, .slice none 0 0] 71)))
  have Hg := Kp.mk (heap_new w (.cells #[.int .i64 0, .bool false, .int .i64 0, .int .i64 0, .int .i64 0, .slice none 0 0, .slice none 0 0, .slice none 0 0, .slice none 0 0] 71))
  have HL := Kp.mk (St.outer HS.out)
  have HC := Kp.mk h
  have HX := Kp.mk hx8
  have HEn := Kp.mk (env_alloc hE (.cells #[.int .i64 0, .bool false, .int .i64 0, .int .i64 0, .int .i64 0, .slice none 0 0, .slice none 0 0, .slice none 0 0, .slice none 0 0] 71))
  have hz1 : (w.alloc (.cells #[.int .i64 0, .bool false, .int .i64 0, .int .i64 0, .int .i64 0, .slice none 0 0, .slice none 0 0, .slice none 0 0, .slice none 0 0] 71)).heap.size = w.heap.size + 1 := by simp
  have HZ1 := Kp.mk hz1
  unfold parseM at hr
  by_cases g1 : 4000 < xs.length
  · rw [if_pos g1] at hr
    obtain ⟨rfl, rfl⟩ : Msg.zero = m ∧ Er.code 4 = er := by simpa using hr
    have b1 : decide ((4000 : Int) < (xs.length : Int)) = true := by simp; omega
    clear h hx8 hE hr g1 hz1
    go_enter Tryz.func37, Tryz.ntmps37
    go_wp2_with (with_reducible refine st_blk (w0 := w) (base := w.heap.size) rfl 71 (.tmp 2) (.tmp 19) rfl rfl w.heap.size _ rfl rfl Hg (by kernel_rfl) (by kernel_rfl) (by kernel_rfl) HL (Nat.le_refl _) ?_)
    intro w1 Hg1 HO1 HB1 hs1
    go_wp2
    refine bodyPost_ret (results_ct rfl _ _ w.heap.size _ _ (0, 0) _ rfl Hg1.out Tryz.underlying71 rfl (by kernel_rfl)) rfl ?_
    exact ⟨_, _, _, _, _, rfl, MsgRows.zero _ _, er_code _ _ _ _, HB1.out⟩
  rw [if_neg g1] at hr
  have b1 : decide ((4000 : Int) < (xs.length : Int)) = false := by simp; omega
  by_cases g2 : xs.length < 12
  · rw [if_pos g2] at hr
    obtain ⟨rfl, rfl⟩ : Msg.zero = m ∧ Er.fault 0 3 = er := by simpa using hr
    have b2 : decide ((xs.length : Int) < 12) = true := by simp; omega
    clear h hx8 hE hr g1 g2 hz1
    go_enter Tryz.func37, Tryz.ntmps37
    go_wp2_with (fail)
    refine g_ (wrap_gives 0 3 _) HS ?_
    intro v1 w1 HM1 HB1 HS1
    obtain ⟨p1, rfl, -⟩ := er_open_fault (erK.K_of_M HM1.out)
    have Hg1 := Kp.mk ((HB1.out.block _ (heap_lt Hg.out)).trans Hg.out)
    have HL1 := Kp.mk (St.outer HS1.out)
    go_wp2_with (with_reducible refine st_blk (w0 := w) (base := w.heap.size) rfl 71 (.tmp 2) (.tmp 25) rfl rfl w.heap.size _ rfl rfl Hg1 (by kernel_rfl) (by kernel_rfl) (by kernel_rfl) HL1 (Nat.le_refl _) ?_)
    intro w2 Hg2 HO2 HB2 hs2
    go_wp2
    refine bodyPost_ret (results_ct rfl _ _ w.heap.size _ _ (0, 0) _ rfl Hg2.out Tryz.underlying71 rfl (by kernel_rfl)) rfl ?_
    exact ⟨_, _, _, _, _, rfl, MsgRows.zero _ _, erK.M_lower (by rw [HZ1.out]; omega) (M_stored HM1.out (by rw [HZ1.out]; omega) HO2.out), HB2.out⟩
  rw [if_neg g2] at hr
  have b2 : decide ((xs.length : Int) < 12) = false := by simp; omega
  have hl : xs.length ≤ 140737488355328 := by omega
  have HU : Kp (∀ (a : Int) (W : World), -9223372036854775808 ≤ a → a ≤ 9223372036854775807 → (Kd.int .u8).C W A xs.length xs → Env W → Calls Tryz.prog 62 #[.slice A xs.length c, .int .i64 a] W (Gives2 (Kd.int .i64) erK (numV xs a 2) (partE xs.length a 2) W)) := ⟨fun a W h1 h2 hC hE => u16_calls A c xs a W hC hx8 hc hcm hE hl h1 h2⟩
  have r0 := u16_range xs 4 hx8
  have r1 := u16_range xs 6 hx8
  have r2 := u16_range xs 8 hx8
  have r3 := u16_range xs 10 hx8
  have rf := u16_range xs 2 hx8
  obtain ⟨n0, hn0⟩ : ∃ n : Nat, cntM xs 4 = n := ⟨_, rfl⟩
  obtain ⟨n1, hn1⟩ : ∃ n : Nat, cntM xs 6 = n := ⟨_, rfl⟩
  obtain ⟨n2, hn2⟩ : ∃ n : Nat, cntM xs 8 = n := ⟨_, rfl⟩
  obtain ⟨n3, hn3⟩ : ∃ n : Nat, cntM xs 10 = n := ⟨_, rfl⟩
  have e0 : numV xs 4 2 = n0 := by rw [← hn0]; unfold cntM; omega
  have e1 : numV xs 6 2 = n1 := by rw [← hn1]; unfold cntM; omega
  have e2 : numV xs 8 2 = n2 := by rw [← hn2]; unfold cntM; omega
  have e3 : numV xs 10 2 = n3 := by rw [← hn3]; unfold cntM; omega
  have k0 : n0 ≤ 65535 := by omega
  have k1 : n1 ≤ 65535 := by omega
  have k2 : n2 ≤ 65535 := by omega
  have k3 : n3 ≤ 65535 := by omega
  have HU0 := Kp.mk (HU.out 4)
  have HU1 := Kp.mk (HU.out 6)
  have HU2 := Kp.mk (HU.out 8)
  have HU3 := Kp.mk (HU.out 10)
  rw [e0] at HU0
  rw [e1] at HU1
  rw [e2] at HU2
  rw [e3] at HU3
  rw [hn0, hn1, hn2, hn3] at hr
  unfold headM at hr
  obtain ⟨id, hid⟩ : ∃ v, numV xs 0 2 = v := ⟨_, rfl⟩
  obtain ⟨f, hf⟩ : ∃ v, numV xs 2 2 = v := ⟨_, rfl⟩
  have HUi := Kp.mk (HU.out 0)
  have HUf := Kp.mk (HU.out 2)
  rw [hid] at HUi hr
  rw [hf] at HUf hr rf
  have HR := Kp.mk hr
  have H12 : Kp (12 ≤ xs.length) := ⟨by omega⟩
  obtain ⟨rf0, rf1⟩ := rf
  clear h hx8 hE hr g1 g2 hz1 r0 r1 r2 r3 hn0 hn1 hn2 hn3 e0 e1 e2 e3 hid hf HU
  go_enter Tryz.func37, Tryz.ntmps37
  go_wp2_with (fail)
  refine g2_ (HUi.out _ (by decide) (by decide) (Kd.C_below HC.out (St.outer HS.out)) HS.out.env) HS ?_
  intro v1 v1e w1 HM1 HM1e HB1 HS1
  obtain rfl : v1 = .int .i64 id := List.singleton_inj.1 HM1.out
  have Hg1 := Kp.mk ((HB1.out.block _ (heap_lt Hg.out)).trans Hg.out)
  go_wp2_with (fail)
  refine g2_ (HUf.out _ (by decide) (by decide) (Kd.C_below HC.out (St.outer HS1.out)) HS1.out.env) HS1 ?_
  intro v2 v2e w2 HM2 HM2e HB2 HS2
  obtain rfl : v2 = .int .i64 f := List.singleton_inj.1 HM2.out
  have Hg2 := Kp.mk ((HB2.out.block _ (heap_lt Hg1.out)).trans Hg1.out)
  have HZ2 := Kp.mk (HS2.out.below.alloc HS2.out.size (.cells #[.int .i64 0, .bool false, .int .i64 0, .int .i64 0, .int .i64 0, .slice none 0 0, .slice none 0 0, .slice none 0 0, .slice none 0 0] 71))
  clear HM1 HM1e HB1 HM2 HM2e HB2 Hg Hg1
  go_wp2_with (with_reducible refine st_blk (w0 := w.alloc (.cells #[.int .i64 0, .bool false, .int .i64 0, .int .i64 0, .int .i64 0, .slice none 0 0, .slice none 0 0, .slice none 0 0, .slice none 0 0] 71)) (base := (w.alloc (.cells #[.int .i64 0, .bool false, .int .i64 0, .int .i64 0, .int .i64 0, .slice none 0 0, .slice none 0 0, .slice none 0 0, .slice none 0 0] 71)).heap.size) rfl 71 (.tmp 8) (.tmp 50) rfl rfl w2.heap.size _ rfl rfl ⟨heap_new _ _⟩ (by kernel_rfl) (by kernel_rfl) (by kernel_rfl) HZ2 HS2.out.size ?_)
  intro w3 Hm3 HO3 HB3 hs3
  have a1 : bits .and .i64 (f / 2048) 15 = f / 2048 % 16 := and_mask4 _ (by omega) (by omega)
  have a2 : bits .and .i64 f 15 = f % 16 := and_mask4 _ (by omega) (by omega)
  have a3 : bits .and .i64 (f / 16) 127 = f / 16 % 128 := and_mask7 _ (by omega) (by omega)
  rw [a1, a2, a3] at Hm3
  obtain ⟨rp, hrp⟩ : ∃ b, (f / 32768 == 1) = b := ⟨_, rfl⟩
  obtain ⟨op, hop⟩ : ∃ b, f / 2048 % 16 = b := ⟨_, rfl⟩
  obtain ⟨co, hco⟩ : ∃ b, f % 16 = b := ⟨_, rfl⟩
  obtain ⟨fl, hfl⟩ : ∃ b, f / 16 % 128 = b := ⟨_, rfl⟩
  have hr := HR.out
  rw [hrp, hop, hco, hfl] at hr Hm3
  have HR2 := Kp.mk hr
  have hB23 := stored_new HS2.out.below HB3.out hs3 HO3.out
  have HS3 := Kp.mk (HS2.out.step hB23)
  have Hg3 := Kp.mk ((hB23.block _ (heap_lt Hg2.out)).trans Hg2.out)
  have hlt1 : w.heap.size < w2.heap.size := heap_lt Hg2.out
  have hlt2 : w2.heap.size < w3.heap.size := heap_lt Hm3.out
  have hal := (Below.refl w3.heap.size w3).alloc (Nat.le_refl _) (.cells (cellsC n0 n1 n2 n3 0) 130)
  have HCW : Kp (CntW (w.alloc (.cells #[.int .i64 0, .bool false, .int .i64 0, .int .i64 0, .int .i64 0, .slice none 0 0, .slice none 0 0, .slice none 0 0, .slice none 0 0] 71)) (w3.alloc (.cells (cellsC n0 n1 n2 n3 0) 130)) w.heap.size w2.heap.size w3.heap.size #[.int .i64 id, .bool rp, .int .i64 op, .int .i64 co, .int .i64 fl, .slice none 0 0, .slice none 0 0, .slice none 0 0, .slice none 0 0] (cellsC n0 n1 n2 n3 0)) := ⟨HS3.out.step hal, (hal.block _ (heap_lt Hg3.out)).trans Hg3.out, (hal.block _ (heap_lt Hm3.out)).trans Hm3.out, heap_new _ _⟩
  clear a1 a2 a3 hrp hop hco hfl hr HR hB23 Hg2 Hg3 Hm3 HO3 HB3 hs3 hal HS3 HZ2
  generalize hgm : w2.heap.size = gm at *
  generalize hgc : w3.heap.size = gc at *
  go_wp2_with (fail)
  go_loopw [10, 51] (fun al i wr => ∃ k : Nat, k ≤ 4 ∧ i = .int .i64 k ∧ al = .int .i64 (sumC n0 n1 n2 n3 k) ∧ Kp (CntW (w.alloc (.cells #[.int .i64 0, .bool false, .int .i64 0, .int .i64 0, .int .i64 0, .slice none 0 0, .slice none 0 0, .slice none 0 0, .slice none 0 0] 71)) wr w.heap.size gm gc #[.int .i64 id, .bool rp, .int .i64 op, .int .i64 co, .int .i64 fl, .slice none 0 0, .slice none 0 0, .slice none 0 0, .slice none 0 0] (cellsC n0 n1 n2 n3 k))) (fun _ i _ => 4 - (intOf i).toNat)
  case atStart => exact ⟨0, by decide, rfl, rfl, HCW⟩
  case round =>
    obtain ⟨k, hk, rfl, rfl, HWr⟩ := hrel
    match k, hk with
    | 0, _ =>
      clear HR2 HCW HL
      rw [show sumC (n0 : Int) n1 n2 n3 0 = 0 from rfl]
      go_wp2_with (fail)
      refine g2_ (HU0.out _ (by decide) (by decide) (Kd.C_below HC.out (St.outer HWr.out.st)) HWr.out.st.env) ⟨HWr.out.st⟩ ?_
      intro v4 v4e w4 HM4 HM4e HB4 HS4
      obtain rfl : v4 = .int .i64 n0 := List.singleton_inj.1 HM4.out
      have HW4 := Kp.mk (HWr.out.step HB4.out)
      have HW5 : Kp (CntW (w.alloc (.cells #[.int .i64 0, .bool false, .int .i64 0, .int .i64 0, .int .i64 0, .slice none 0 0, .slice none 0 0, .slice none 0 0, .slice none 0 0] 71)) (w4.setCell ⟨gc, 0, none⟩ (.int .i64 n0)) w.heap.size gm gc #[.int .i64 id, .bool rp, .int .i64 op, .int .i64 co, .int .i64 fl, .slice none 0 0, .slice none 0 0, .slice none 0 0, .slice none 0 0] (cellsC n0 n1 n2 n3 1)) := ⟨HW4.out.put HEn.out 0 (.int .i64 n0) rfl (by rw [HZ1.out]; omega) (by omega) (by omega)⟩
      have d4 : w4.cell? ⟨gc, 0, none⟩ = some (.int .i64 0) := blk_cell HW4.out.cnt 0
      have f4 := blk_frozen HW4.out.cnt 0
      obtain ⟨W5, hW5⟩ : ∃ W5, w4.setCell ⟨gc, 0, none⟩ (.int .i64 n0) = W5 := ⟨_, rfl⟩
      rw [hW5] at HW5
      have d5 : W5.cell? ⟨gc, 0, none⟩ = some (.int .i64 n0) := blk_cell HW5.out.cnt 0
      clear HM4 HM4e HB4 HW4
      go_wp2
      exact ⟨⟨1, by decide, by go_num, by simp [sumC], HW5⟩, by simp [intOf]⟩
    | 1, _ =>
      clear HR2 HCW HL
      rw [show sumC (n0 : Int) n1 n2 n3 1 = (n0 : Int) from rfl]
      go_wp2_with (fail)
      refine g2_ (HU1.out _ (by decide) (by decide) (Kd.C_below HC.out (St.outer HWr.out.st)) HWr.out.st.env) ⟨HWr.out.st⟩ ?_
      intro v4 v4e w4 HM4 HM4e HB4 HS4
      obtain rfl : v4 = .int .i64 n1 := List.singleton_inj.1 HM4.out
      have HW4 := Kp.mk (HWr.out.step HB4.out)
      have HW5 : Kp (CntW (w.alloc (.cells #[.int .i64 0, .bool false, .int .i64 0, .int .i64 0, .int .i64 0, .slice none 0 0, .slice none 0 0, .slice none 0 0, .slice none 0 0] 71)) (w4.setCell ⟨gc, 1, none⟩ (.int .i64 n1)) w.heap.size gm gc #[.int .i64 id, .bool rp, .int .i64 op, .int .i64 co, .int .i64 fl, .slice none 0 0, .slice none 0 0, .slice none 0 0, .slice none 0 0] (cellsC n0 n1 n2 n3 2)) := ⟨HW4.out.put HEn.out 1 (.int .i64 n1) rfl (by rw [HZ1.out]; omega) (by omega) (by omega)⟩
      have d4 : w4.cell? ⟨gc, 1, none⟩ = some (.int .i64 0) := blk_cell HW4.out.cnt 1
      have f4 := blk_frozen HW4.out.cnt 1
      obtain ⟨W5, hW5⟩ : ∃ W5, w4.setCell ⟨gc, 1, none⟩ (.int .i64 n1) = W5 := ⟨_, rfl⟩
      rw [hW5] at HW5
      have d5 : W5.cell? ⟨gc, 1, none⟩ = some (.int .i64 n1) := blk_cell HW5.out.cnt 1
      clear HM4 HM4e HB4 HW4
      go_wp2
      exact ⟨⟨2, by decide, by go_num, by simp [sumC], HW5⟩, by simp [intOf]⟩
    | 2, _ =>
      clear HR2 HCW HL
      rw [show sumC (n0 : Int) n1 n2 n3 2 = (n0 : Int) + n1 from rfl]
      go_wp2_with (fail)
      refine g2_ (HU2.out _ (by decide) (by decide) (Kd.C_below HC.out (St.outer HWr.out.st)) HWr.out.st.env) ⟨HWr.out.st⟩ ?_
      intro v4 v4e w4 HM4 HM4e HB4 HS4
      obtain rfl : v4 = .int .i64 n2 := List.singleton_inj.1 HM4.out
      have HW4 := Kp.mk (HWr.out.step HB4.out)
      have HW5 : Kp (CntW (w.alloc (.cells #[.int .i64 0, .bool false, .int .i64 0, .int .i64 0, .int .i64 0, .slice none 0 0, .slice none 0 0, .slice none 0 0, .slice none 0 0] 71)) (w4.setCell ⟨gc, 2, none⟩ (.int .i64 n2)) w.heap.size gm gc #[.int .i64 id, .bool rp, .int .i64 op, .int .i64 co, .int .i64 fl, .slice none 0 0, .slice none 0 0, .slice none 0 0, .slice none 0 0] (cellsC n0 n1 n2 n3 3)) := ⟨HW4.out.put HEn.out 2 (.int .i64 n2) rfl (by rw [HZ1.out]; omega) (by omega) (by omega)⟩
      have d4 : w4.cell? ⟨gc, 2, none⟩ = some (.int .i64 0) := blk_cell HW4.out.cnt 2
      have f4 := blk_frozen HW4.out.cnt 2
      obtain ⟨W5, hW5⟩ : ∃ W5, w4.setCell ⟨gc, 2, none⟩ (.int .i64 n2) = W5 := ⟨_, rfl⟩
      rw [hW5] at HW5
      have d5 : W5.cell? ⟨gc, 2, none⟩ = some (.int .i64 n2) := blk_cell HW5.out.cnt 2
      clear HM4 HM4e HB4 HW4
      go_wp2
      exact ⟨⟨3, by decide, by go_num, by simp [sumC], HW5⟩, by simp [intOf]⟩
    | 3, _ =>
      clear HR2 HCW HL
      rw [show sumC (n0 : Int) n1 n2 n3 3 = (n0 : Int) + n1 + n2 from rfl]
      go_wp2_with (fail)
      refine g2_ (HU3.out _ (by decide) (by decide) (Kd.C_below HC.out (St.outer HWr.out.st)) HWr.out.st.env) ⟨HWr.out.st⟩ ?_
      intro v4 v4e w4 HM4 HM4e HB4 HS4
      obtain rfl : v4 = .int .i64 n3 := List.singleton_inj.1 HM4.out
      have HW4 := Kp.mk (HWr.out.step HB4.out)
      have HW5 : Kp (CntW (w.alloc (.cells #[.int .i64 0, .bool false, .int .i64 0, .int .i64 0, .int .i64 0, .slice none 0 0, .slice none 0 0, .slice none 0 0, .slice none 0 0] 71)) (w4.setCell ⟨gc, 3, none⟩ (.int .i64 n3)) w.heap.size gm gc #[.int .i64 id, .bool rp, .int .i64 op, .int .i64 co, .int .i64 fl, .slice none 0 0, .slice none 0 0, .slice none 0 0, .slice none 0 0] (cellsC n0 n1 n2 n3 4)) := ⟨HW4.out.put HEn.out 3 (.int .i64 n3) rfl (by rw [HZ1.out]; omega) (by omega) (by omega)⟩
      have d4 : w4.cell? ⟨gc, 3, none⟩ = some (.int .i64 0) := blk_cell HW4.out.cnt 3
      have f4 := blk_frozen HW4.out.cnt 3
      obtain ⟨W5, hW5⟩ : ∃ W5, w4.setCell ⟨gc, 3, none⟩ (.int .i64 n3) = W5 := ⟨_, rfl⟩
      rw [hW5] at HW5
      have d5 : W5.cell? ⟨gc, 3, none⟩ = some (.int .i64 n3) := blk_cell HW5.out.cnt 3
      clear HM4 HM4e HB4 HW4
      go_wp2
      exact ⟨⟨4, by decide, by go_num, by simp [sumC], HW5⟩, by simp [intOf]⟩
    | 4, _ =>
      have HW : Kp (CntW (w.alloc (.cells #[.int .i64 0, .bool false, .int .i64 0, .int .i64 0, .int .i64 0, .slice none 0 0, .slice none 0 0, .slice none 0 0, .slice none 0 0] 71)) wr w.heap.size gm gc #[.int .i64 id, .bool rp, .int .i64 op, .int .i64 co, .int .i64 fl, .slice none 0 0, .slice none 0 0, .slice none 0 0, .slice none 0 0] #[.int .i64 n0, .int .i64 n1, .int .i64 n2, .int .i64 n3]) := HWr
      have hs4 : sumC n0 n1 n2 n3 4 = ((n0 + n1 + n2 + n3 : Nat) : Int) := by simp [sumC]
      obtain ⟨z, hz⟩ : ∃ z, n0 + n1 + n2 + n3 = z := ⟨_, rfl⟩
      have hr := HR2.out
      rw [hz] at hs4 hr
      rw [hs4]
      have HZ := Kp.mk hz
      clear HR2 HCW HWr hs4 hz HU0 HU1 HU2 HU3 HUi HUf HL
      by_cases g3 : 64 < z
      · rw [if_pos g3] at hr
        obtain ⟨rfl, rfl⟩ : Msg.zero = m ∧ Er.fault 4 4 = er := by simpa using hr
        have b3 : decide ((64 : Int) < (z : Int)) = true := by simp; omega
        clear hr
        go_wp2_with (fail)
        refine g_ (wrap_gives 4 4 _) ⟨HW.out.st⟩ ?_
        intro v5 w5 HM5 HB5 HS5
        obtain ⟨p5, rfl, -⟩ := er_open_fault (erK.K_of_M HM5.out)
        have Hg5 := Kp.mk ((HB5.out.block _ (heap_lt HW.out.res)).trans HW.out.res)
        have HL5 := Kp.mk (St.outer HS5.out)
        go_wp2_with (with_reducible refine st_blk (w0 := w) (base := w.heap.size) rfl 71 (.tmp 2) (.tmp 72) rfl rfl w.heap.size _ rfl rfl Hg5 (by kernel_rfl) (by kernel_rfl) (by kernel_rfl) HL5 (Nat.le_refl _) ?_)
        intro w6 Hg6 HO6 HB6 hs6
        go_wp2
        refine bodyPost_ret (results_ct rfl _ _ w.heap.size _ _ (0, 0) _ rfl Hg6.out Tryz.underlying71 rfl (by kernel_rfl)) rfl ?_
        exact ⟨_, _, _, _, _, rfl, MsgRows.zero _ _, erK.M_lower (Nat.le_of_lt (heap_lt HW.out.res)) (M_stored HM5.out (heap_lt HW.out.res) HO6.out), HB6.out⟩
      rw [if_neg g3] at hr
      have b3 : decide ((64 : Int) < (z : Int)) = false := by simp; omega
      obtain ⟨bd, ba, be, hb⟩ : ∃ bd ba be, bodyR xs n0 n1 n2 n3 = (bd, ba, be) := ⟨_, _, _, rfl⟩
      have hbe := bodyR_err xs n0 n1 n2 n3
      rw [hb] at hr hbe
      dsimp only at hr hbe
      have HBR := Kp.mk hb
      have HBE := Kp.mk hbe
      have HR3 := Kp.mk hr
      clear hr hb hbe
      go_wp2_with (with_reducible refine ld_blk rfl 130 (.tmp 9) rfl gc rfl ⟨HW.out.cnt⟩ Tryz.underlying130 rfl (by kernel_rfl) ?_)
      refine (body_calls A c xs gm n0 n1 n2 n3 id rp op co fl (w.alloc (.cells #[.int .i64 0, .bool false, .int .i64 0, .int .i64 0, .int .i64 0, .slice none 0 0, .slice none 0 0, .slice none 0 0, .slice none 0 0] 71)) _ bd ba be (Kd.C_below HC.out (St.outer HS.out)) HX.out hc hcm HW.out.st HEn.out hl H12.out (by rw [HZ1.out]; omega) HW.out.msg (by omega) (by omega) (by omega) (by omega) HBR.out).mono ?_
      rintro e5 w5 ⟨⟨v5, rfl, hM5⟩, hSt5, hsz5, hO5, hok5⟩
      have HS5 := Kp.mk (hSt5.alloc (.cells #[.pointer none] 98))
      have HSt5 := Kp.mk hSt5
      have HM5 := Kp.mk hM5
      have HOK := Kp.mk hok5
      have hwr := heap_lt HW.out.res
      have Hg5 := Kp.mk ((hO5 w.heap.size hwr (by omega)).trans HW.out.res)
      have HT := Kp.mk HS5.out.env.errT
      clear hM5 hSt5 hO5 hok5
      rcases be with _ | cc | ⟨fa, fc⟩
      · obtain rfl := er_open_none (erK.K_of_M HM5.out)
        have hr := HR3.out
        rw [if_neg (show ¬ Er.none.placed = true by decide)] at hr
        have Hg6 := Kp.mk (show (w5.alloc (.cells #[.pointer none] 98)).heap[w.heap.size]? = some (.cells #[.int .i64 0, .bool false, .int .i64 0, .int .i64 0, .int .i64 0, .slice none 0 0, .slice none 0 0, .slice none 0 0, .slice none 0 0] 71 (0, 0)) from ((Below.refl w5.heap.size w5).alloc (Nat.le_refl _) _).block _ (heap_lt Hg5.out) |>.trans Hg5.out)
        by_cases g5 : ba = xs.length
        case neg =>
          rw [if_pos g5] at hr
          obtain ⟨rfl, rfl⟩ : Msg.zero = m ∧ Er.fault ba 7 = er := by simpa using hr
          have bq : (ba != (xs.length : Int)) = true := by simpa using g5
          clear hr
          go_wp2_with (go_at_call 49; refine (as_nil _ _).mono ?_; rintro e6 w6 ⟨rfl, rfl⟩)
          refine g_ (wrap_gives ba 7 _) HS5 ?_
          intro v7 w7 HM7 HB7 HS7
          obtain ⟨p7, rfl, -⟩ := er_open_fault (erK.K_of_M HM7.out)
          have Hg7 := Kp.mk ((HB7.out.block _ (heap_lt Hg6.out)).trans Hg6.out)
          have HL7 := Kp.mk (St.outer HS7.out)
          go_wp2_with (with_reducible refine st_blk (w0 := w) (base := w.heap.size) rfl 71 (.tmp 2) (.tmp 93) rfl rfl w.heap.size _ rfl rfl Hg7 (by kernel_rfl) (by kernel_rfl) (by kernel_rfl) HL7 (Nat.le_refl _) ?_)
          intro w8 Hg8 HO8 HB8 hs8
          go_wp2
          refine bodyPost_ret (results_ct rfl _ _ w.heap.size _ _ (0, 0) _ rfl Hg8.out Tryz.underlying71 rfl (by kernel_rfl)) rfl ?_
          exact ⟨_, _, _, _, _, rfl, MsgRows.zero _ _, erK.M_lower (Nat.le_of_lt (heap_lt Hg6.out)) (M_stored HM7.out (heap_lt Hg6.out) HO8.out), HB8.out⟩
        rw [if_neg (by simpa using g5)] at hr
        obtain ⟨rfl, rfl⟩ : (⟨id, rp, op, co, fl, bd.1, bd.2.1, bd.2.2.1, bd.2.2.2⟩ : Msg) = m ∧ Er.none = er := by simpa using hr
        subst g5
        clear hr
        obtain ⟨v5, v6, v7, v8, hmb, h5, h6, h7, h8⟩ := HOK.out rfl
        obtain ⟨A5, c5, rfl⟩ := Kd.R_slice h5
        obtain ⟨A6, c6, rfl⟩ := Kd.R_slice h6
        obtain ⟨A7, c7, rfl⟩ := Kd.R_slice h7
        obtain ⟨A8, c8, rfl⟩ := Kd.R_slice h8
        have hal := (Below.refl w5.heap.size w5).alloc (Nat.le_refl _) (.cells #[.pointer none] 98)
        have Hm6 := Kp.mk ((hal.block _ (heap_lt hmb)).trans hmb)
        have HR5 := Kp.mk (Kd.R_below h5 hal)
        have HR6 := Kp.mk (Kd.R_below h6 hal)
        have HR7 := Kp.mk (Kd.R_below h7 hal)
        have HR8 := Kp.mk (Kd.R_below h8 hal)
        have HL6 := Kp.mk (St.outer HS5.out)
        have hlt6 : w.heap.size < (w.alloc (.cells #[.int .i64 0, .bool false, .int .i64 0, .int .i64 0, .int .i64 0, .slice none 0 0, .slice none 0 0, .slice none 0 0, .slice none 0 0] 71)).heap.size := by rw [HZ1.out]; omega
        have HLT := Kp.mk hlt6
        clear hmb h5 h6 h7 h8 hal hlt6
        go_wp2_with (first
          | (go_at_call 49; refine (as_nil _ _).mono ?_; rintro e6 w6 ⟨rfl, rfl⟩)
          | (with_reducible refine ld_blk rfl 71 (.tmp 8) rfl gm rfl Hm6 Tryz.underlying71 rfl (by kernel_rfl) ?_)
          | (with_reducible refine st_blk (w0 := w) (base := w.heap.size) rfl 71 (.tmp 2) (.tmp 97) rfl rfl w.heap.size _ rfl rfl Hg6 (by kernel_rfl) (by kernel_rfl) (by kernel_rfl) HL6 (Nat.le_refl _) ?_))
        intro w8 Hg8 HO8 HB8 hs8
        go_wp2
        refine bodyPost_ret (results_ct rfl _ _ w.heap.size _ _ (0, 0) _ rfl Hg8.out Tryz.underlying71 rfl (by kernel_rfl)) rfl ?_
        exact ⟨_, _, _, _, _, rfl, ⟨Kd.R_lower (R_stored (Kd.R_mono HR5.out (fun _ _ => trivial)) HLT.out HO8.out) (Nat.le_of_lt HLT.out), Kd.R_lower (R_stored (Kd.R_mono HR6.out (fun _ _ => trivial)) HLT.out HO8.out) (Nat.le_of_lt HLT.out), Kd.R_lower (R_stored (Kd.R_mono HR7.out (fun _ _ => trivial)) HLT.out HO8.out) (Nat.le_of_lt HLT.out), Kd.R_lower (R_stored (Kd.R_mono HR8.out (fun _ _ => trivial)) HLT.out HO8.out) (Nat.le_of_lt HLT.out)⟩, er_none _ _ _, HB8.out⟩
      · obtain rfl := er_open_code (erK.K_of_M HM5.out)
        have hr := HR3.out
        rw [if_neg (show ¬ (Er.code cc).placed = true by simp [Er.placed])] at hr
        have g5 : ba ≠ xs.length := by rw [HBE.out (by simp)]; have := H12.out; omega
        rw [if_pos g5] at hr
        obtain ⟨rfl, rfl⟩ : Msg.zero = m ∧ Er.fault ba 7 = er := by simpa using hr
        have bq : (ba != (xs.length : Int)) = true := by simpa using g5
        clear hr
        go_wp2_with (fail)
        refine (as_ef cc ⟨w5.heap.size, 0, none⟩ (.pointer none) _ HT.out (by simp) (by simp)).mono ?_
        rintro e6 w6 ⟨rfl, hb⟩
        have HW6 := Kp.mk (HS5.out.step hb)
        have hal := (Below.refl w5.heap.size w5).alloc (Nat.le_refl _) (.cells #[.pointer none] 98)
        have Hg6 := Kp.mk ((hb.block _ (heap_lt ((hal.block _ (heap_lt Hg5.out)).trans Hg5.out))).trans ((hal.block _ (heap_lt Hg5.out)).trans Hg5.out))
        clear hb hal
        go_wp2_with (fail)
        refine g_ (wrap_gives ba 7 _) HW6 ?_
        intro v7 w7 HM7 HB7 HS7
        obtain ⟨p7, rfl, -⟩ := er_open_fault (erK.K_of_M HM7.out)
        have Hg7 := Kp.mk ((HB7.out.block _ (heap_lt Hg6.out)).trans Hg6.out)
        have HL7 := Kp.mk (St.outer HS7.out)
        go_wp2_with (with_reducible refine st_blk (w0 := w) (base := w.heap.size) rfl 71 (.tmp 2) (.tmp 93) rfl rfl w.heap.size _ rfl rfl Hg7 (by kernel_rfl) (by kernel_rfl) (by kernel_rfl) HL7 (Nat.le_refl _) ?_)
        intro w8 Hg8 HO8 HB8 hs8
        go_wp2
        refine bodyPost_ret (results_ct rfl _ _ w.heap.size _ _ (0, 0) _ rfl Hg8.out Tryz.underlying71 rfl (by kernel_rfl)) rfl ?_
        exact ⟨_, _, _, _, _, rfl, MsgRows.zero _ _, erK.M_lower (Nat.le_of_lt (heap_lt Hg6.out)) (M_stored HM7.out (heap_lt Hg6.out) HO8.out), HB8.out⟩
      · obtain ⟨p, rfl, hp⟩ := er_open_fault (erK.K_of_M HM5.out)
        have hr := HR3.out
        rw [if_pos (show (Er.fault fa fc).placed = true from rfl)] at hr
        obtain ⟨rfl, rfl⟩ : Msg.zero = m ∧ Er.fault fa fc = er := by simpa using hr
        clear hr
        go_wp2_with (fail)
        refine (as_ff p ⟨w5.heap.size, 0, none⟩ (.pointer none) _ HT.out (by simp) (by simp)).mono ?_
        rintro e6 w6 ⟨rfl, w7, hb, rfl⟩
        obtain ⟨hc6, hB6⟩ := hit_cell hb (.pointer (some ⟨p, 0, none⟩))
        obtain ⟨W6, hW6⟩ : ∃ W6, w7.setCell ⟨w5.heap.size, 0, none⟩ (.pointer (some ⟨p, 0, none⟩)) = W6 := ⟨_, rfl⟩
        rw [hW6] at hc6 hB6 ⊢
        have HS6 := Kp.mk (HSt5.out.step hB6)
        have Hg6 := Kp.mk ((hB6.block _ (heap_lt Hg5.out)).trans Hg5.out)
        have HM6 := Kp.mk (erK.M_below HM5.out hB6)
        have F6 := Kp.mk hc6
        have HL6 := Kp.mk (St.outer HS6.out)
        clear hb hW6 hB6
        go_wp2_with (fail)
        obtain ⟨X, hX, hXr⟩ : ∃ X : Addr → List Value → Nat → Sem Unit, (∀ p l, storeCells p l 0 = X p l 0) ∧ (X ⟨w.heap.size, 0, none⟩ [.int .i64 0, .bool false, .int .i64 0, .int .i64 0, .int .i64 0, .slice none 0 0, .slice none 0 0, .slice none 0 0, .slice none 0 0] 0).run Tryz.prog W6.drew = .ok () (W6.drew.setRow w.heap.size #[.int .i64 0, .bool false, .int .i64 0, .int .i64 0, .int .i64 0, .slice none 0 0, .slice none 0 0, .slice none 0 0, .slice none 0 0]) := ⟨fun a l i => storeCells a l i, fun _ _ => rfl, put_msg0 W6.drew _ Hg6.out⟩
        have hne : w5.heap.size ≠ w.heap.size := by omega
        go_region_held3 (fun w' => w'.cell? ⟨w5.heap.size, 0, none⟩ = some (.pointer (some ⟨p, 0, none⟩))) (first | exact F6.out | exact (cell_setRow_other _ _ _ _ hne).trans F6.out) (fail)
        clear hX hXr
        have hHg := setRow_heap W6.drew w.heap.size _ #[.int .i64 0, .bool false, .int .i64 0, .int .i64 0, .int .i64 0, .slice none 0 0, .slice none 0 0, .slice none 0 0, .slice none 0 0] _ _ Hg6.out
        have hHB : Below w.heap.size w (W6.drew.setRow w.heap.size #[.int .i64 0, .bool false, .int .i64 0, .int .i64 0, .int .i64 0, .slice none 0 0, .slice none 0 0, .slice none 0 0, .slice none 0 0]) := ⟨HL6.out.os, HL6.out.tape, HL6.out.output, by rw [size_setRow]; exact HL6.out.size, fun k hk => (setRow_other W6.drew _ k _ (by omega)).trans (HL6.out.block k hk)⟩
        have hHM : erK.M (W6.drew.setRow w.heap.size #[.int .i64 0, .bool false, .int .i64 0, .int .i64 0, .int .i64 0, .slice none 0 0, .slice none 0 0, .slice none 0 0, .slice none 0 0]) w.heap.size (fun _ => True) (.fault fa fc) [.iface 98 (.pointer (some ⟨p, 0, none⟩))] := erK.M_lower (by rw [HZ1.out]; omega) (erK.M_mono (fun _ _ => trivial) (M_stored (w := W6) (w' := W6.drew.setRow w.heap.size #[.int .i64 0, .bool false, .int .i64 0, .int .i64 0, .int .i64 0, .slice none 0 0, .slice none 0 0, .slice none 0 0, .slice none 0 0]) (g := w.heap.size) (erK.M_mono (fun _ _ => trivial) HM6.out) (by rw [HZ1.out]; omega) (fun k hk => setRow_other W6.drew _ k _ hk)))
        have HGG := Kp.mk hHg
        have HBB := Kp.mk hHB
        have HMM := Kp.mk hHM
        clear hHg hHB hHM
        generalize W6.drew.setRow w.heap.size #[.int .i64 0, .bool false, .int .i64 0, .int .i64 0, .int .i64 0, .slice none 0 0, .slice none 0 0, .slice none 0 0, .slice none 0 0] = W7 at HGG HBB HMM ⊢
        go_wp2
        refine bodyPost_ret (results_ct rfl _ _ w.heap.size _ _ (0, 0) _ rfl HGG.out Tryz.underlying71 rfl (by kernel_rfl)) rfl ?_
        exact ⟨_, _, _, _, _, rfl, MsgRows.zero _ _, HMM.out, HBB.out⟩
end Go.Proofs.YtclgffblfjhciaaGreatDoor

