/-
  Package dnsmsg: within, Write, by their contracts.
-/
import Derived.Test.YtclgffblfjhciaaGreatDoorZDmC
import Derived.Test.YtclgffblfjhciaaGreatDoorZDmD
import Derived.Test.YtclgffblfjhciaaGreatDoorZRecH
import Derived.Test.YtclgffblfjhciaaGreatDoorZRbA
import Derived.Lib.EndianBits
import Derived.Deep.DeepCutAuto
namespace Go.Proofs.YtclgffblfjhciaaGreatDoor
open Go.RowKit Go.Proofs.YtclgffblfjhciaaGreatDoorW.PrintWords
set_option linter.unusedVariables false
set_option linter.unusedSimpArgs false
set_option maxRecDepth 100000
set_option maxHeartbeats 4000000

def inB (v most : Int) : Bool := decide (0 ≤ v) && decide (v ≤ most)
theorem dwithin_calls (v most : Int) (w : World) : Calls Tryz.prog 77 #[.int .i64 v, .int .i64 most] w fun e w' => e = .returned (.bool (inB v most)) ∧ w = w' := by
  by_cases h : 0 ≤ v
  · have hb : decide (0 ≤ v) = true := by simpa using h
    have hw : inB v most = decide (v ≤ most) := by unfold inB; rw [hb, Bool.true_and]
    rw [hw]
    clear hw
    go_enter Tryz.func77, Tryz.ntmps77
    go_wp2
    go_ret
    exact ⟨rfl, rfl⟩
  · have hb : decide (0 ≤ v) = false := by simpa using h
    have hw : inB v most = false := by unfold inB; rw [hb, Bool.false_and]
    rw [hw]
    clear hw
    go_enter Tryz.func77, Tryz.ntmps77
    go_wp2
    go_ret
    exact ⟨rfl, rfl⟩
def Msg.all (m : Msg) : List Rec := m.an ++ m.au ++ m.ex
def Msg.headOk (m : Msg) : Bool := inB m.id 65535 && (inB m.op 15 && (inB m.co 15 && (inB m.fl 127 && decide (m.qs.length + m.all.length ≤ 64))))
def Msg.bits (m : Msg) : Int := m.op * 2048 + m.fl * 16 + m.co + (if m.rp then 32768 else 0)
def Msg.head (m : Msg) : List Int := be16 m.id ++ be16 m.bits ++ be16 m.qs.length ++ be16 m.an.length ++ be16 m.au.length ++ be16 m.ex.length
def Msg.wire (m : Msg) : List Int := m.head ++ (m.qs.map Qu.wire).flatten ++ (m.all.map Rec.wire).flatten
/-- A message's bytes, or why there are none. -/
def writeM (m : Msg) : List Int × Er :=
  if m.headOk = false then ([], .code 1)
  else if (m.qs.all Qu.right) = false then ([], .code 1)
  else if (m.all.all Rec.right) = false then ([], .code 1)
  else if 4000 < m.wire.length then ([], .code 4)
  else (m.wire, .none)
structure Rec.Fit (r : Rec) : Prop where
  name : r.name.length < 4294967281
  tgt : r.tgt.length < 4294967281
  data : r.data.length ≤ 9223372036854775807
  ttl : 0 ≤ r.ttl ∧ r.ttl ≤ 4294967295
/-- WriteQuestion, WriteRecord, at any. -/
theorem wq_calls (q : Qu) (w : World) (hE : Env w) (hs : q.name.length < 4294967281) : Calls Tryz.prog 29 #[.agg #[.string (mkB q.name), .int .i64 q.typ, .int .i64 q.cls]] w (Gives2 bytesK erK (if q.right = true then q.wire else []) (if q.right = true then .none else .code 1) w) := by
  by_cases h : q.right = true
  · rw [if_pos h, if_pos h]; exact wq_good q w hE hs h
  · rw [if_neg h, if_neg h]; exact wq_bad q w hE hs (by simpa using h)
theorem wr_calls (r : Rec) (A : Option Addr) (c : Nat) (w : World) (hE : Env w) (h : (Kd.int .u8).C w A r.data.length r.data) (hc : r.data.length ≤ c) (hf : r.Fit) : Calls Tryz.prog 22 #[.agg (recA r (.slice A r.data.length c))] w (Gives2 bytesK erK (if r.right = true then r.wire else []) (if r.right = true then .none else .code 1) w) := by
  by_cases hr : r.right = true
  · rw [if_pos hr, if_pos hr]; exact wr_good r A c w hE h hc hr hf.name hf.tgt hf.ttl.1 hf.ttl.2
  · rw [if_neg hr, if_neg hr]; exact wr_bad r A c w hE hf.name hf.tgt hf.data (by simpa using hr)
theorem run_index_four (a b c d : Int) (w : World) :
    (Instr.index 130 (.agg #[.int .i64 a, .int .i64 b, .int .i64 c, .int .i64 d]) (.int .i64 0)).run Tryz.prog w = .ok (.int .i64 a) w
    ∧ (Instr.index 130 (.agg #[.int .i64 a, .int .i64 b, .int .i64 c, .int .i64 d]) (.int .i64 1)).run Tryz.prog w = .ok (.int .i64 b) w
    ∧ (Instr.index 130 (.agg #[.int .i64 a, .int .i64 b, .int .i64 c, .int .i64 d]) (.int .i64 2)).run Tryz.prog w = .ok (.int .i64 c) w
    ∧ (Instr.index 130 (.agg #[.int .i64 a, .int .i64 b, .int .i64 c, .int .i64 d]) (.int .i64 3)).run Tryz.prog w = .ok (.int .i64 d) w := by
  refine ⟨?_, ?_, ?_, ?_⟩ <;> simp [Instr.index, run_underlying Tryz.underlying130, asIntOf, go_sem]
/-- A block that only grows younger. -/
theorem head_bad {m : Msg} (h : m.headOk = false) : writeM m = ([], .code 1) := by unfold writeM; rw [if_pos h]
theorem qs_bad {m : Msg} (h : m.headOk = true) {q : Qu} (hq : q ∈ m.qs) (hr : q.right = false) : writeM m = ([], .code 1) := by
  unfold writeM
  rw [if_neg (by simp [h]), if_pos]
  exact List.all_eq_false.2 ⟨q, hq, by simp [hr]⟩
theorem rs_bad {m : Msg} (h : m.headOk = true) (h2 : m.qs.all Qu.right = true) {r : Rec} (hq : r ∈ m.all) (hr : r.right = false) : writeM m = ([], .code 1) := by
  unfold writeM
  rw [if_neg (by simp [h]), if_neg (by simp [h2]), if_pos]
  exact List.all_eq_false.2 ⟨r, hq, by simp [hr]⟩
theorem concat2_calls (A B : Option Addr) (c d : Nat) (xs ys : List Int) (W : World) (h : (Kd.int .u8).C W A xs.length xs) (hc : xs.length ≤ c) (h2 : (Kd.int .u8).C W B ys.length ys) (hd : ys.length ≤ d) (hl : xs.length + ys.length ≤ 140737488355328) :
    Calls Tryz.prog 58 #[.slice (some ⟨W.heap.size, 0, none⟩) 2 2] (W.alloc (.cells #[.slice A xs.length c, .slice B ys.length d] 24)) (Gives (Kd.slice 5 (Kd.int .u8)) (xs ++ ys) (W.alloc (.cells #[.slice A xs.length c, .slice B ys.length d] 24))) := by
  have hrows := lit_rows (w := W) (T := 24) [.slice A xs.length c, .slice B ys.length d] [xs, ys] rfl (by show 2 ≤ 9223372036854775807; decide) (fun j hj => by
    have hj' : j < 2 := hj
    match j, hj' with
    | 0, _ => exact ⟨A, c, rfl, hc, h⟩
    | 1, _ => exact ⟨B, d, rfl, hd, h2⟩)
  have hfl : [xs, ys].flatten = xs ++ ys := by simp
  have hcat := concatB_calls _ 2 [xs, ys] _ hrows (by rw [hfl, List.length_append]; omega)
  rw [hfl] at hcat
  exact hcat
def hdM (l : List Int) (a b c d : Int) : Nat → List Int
  | 0 => l
  | 1 => l ++ be16 a
  | 2 => l ++ be16 a ++ be16 b
  | 3 => l ++ be16 a ++ be16 b ++ be16 c
  | _ => l ++ be16 a ++ be16 b ++ be16 c ++ be16 d
theorem pre_ex {α : Type} (f : α → List Int) (l : List Int) (xs : List α) : ∃ P : Nat → List Int, P 0 = l ∧ (∀ (k : Nat) (x : α), xs[k]? = some x → P (k + 1) = P k ++ f x) ∧ P xs.length = l ++ (xs.map f).flatten := by
  refine ⟨fun k => l ++ ((xs.take k).map f).flatten, by simp, fun k x h => ?_, by simp⟩
  have ht : xs.take (k + 1) = xs.take k ++ [x] := by rw [List.take_add_one, h]; rfl
  show l ++ ((xs.take (k + 1)).map f).flatten = _
  rw [ht]
  simp
theorem or_flags (op fl co : Int) (h1 : 0 ≤ op ∧ op ≤ 15) (h2 : 0 ≤ fl ∧ fl ≤ 127) (h3 : 0 ≤ co ∧ co ≤ 15) :
    bits .or .i64 (op * 2048) (fl * 16) = op * 2048 + fl * 16 ∧ bits .or .i64 (op * 2048 + fl * 16) co = op * 2048 + fl * 16 + co ∧ bits .or .i64 (op * 2048 + fl * 16 + co) 32768 = op * 2048 + fl * 16 + co + 32768 := by
  obtain ⟨a1, a2⟩ := h1
  obtain ⟨b1, b2⟩ := h2
  obtain ⟨c1, c2⟩ := h3
  exact ⟨bits_join .i64 16 (by decide) (fun n h0 h1 => IntWalk.i64_in n (by omega)) 11 _ _ (by omega) (by omega) (by omega) (by omega) (by omega) (by omega),
    bits_join .i64 16 (by decide) (fun n h0 h1 => IntWalk.i64_in n (by omega)) 4 _ _ (by omega) (by omega) (by omega) (by omega) (by omega) (by omega),
    bits_join_low .i64 16 (by decide) (fun n h0 h1 => IntWalk.i64_in n (by omega)) 15 _ _ (by omega) (by omega) (by omega) (by omega) (by omega) (by omega)⟩
theorem at_qu {w : World} {A : Option Addr} {n : Nat} {xs : List Qu} (h : quK.C w A n xs) (k : Nat) (hk : k < n) :
    ∃ ad, A = some ad ∧ w.cell? (ad.add (k * 3)) = some (.string (mkB (xs.getD k Qu.zero).name)) ∧ w.cell? ⟨(ad.add (k * 3)).block, (ad.add (k * 3)).off + 1, none⟩ = some (.int .i64 (xs.getD k Qu.zero).typ) ∧ w.cell? ⟨(ad.add (k * 3)).block, (ad.add (k * 3)).off + 2, none⟩ = some (.int .i64 (xs.getD k Qu.zero).cls) := by
  obtain ⟨ad, c, e, -, hK, hc⟩ := Kd.C_get h Qu.zero (k : Int) (by omega) (by omega)
  rw [Int.toNat_natCast] at hK hc
  obtain rfl := quK_open.1 hK
  have e3 : quK.sz = 3 := rfl
  rw [e3] at hc
  refine ⟨ad, e, hc 0 _ rfl, ?_, ?_⟩
  · rw [← add_field ad (k * 3) 1 (by decide)]; exact hc 1 _ rfl
  · rw [← add_field ad (k * 3) 2 (by decide)]; exact hc 2 _ rfl

theorem write_calls (m : Msg) (A5 A6 A7 A8 : Option Addr) (c5 c6 c7 c8 : Nat) (w : World) (out : List Int) (er : Er) (hE : Env w) (h5 : quK.C w A5 m.qs.length m.qs) (k5 : m.qs.length ≤ c5) (h6 : recK.C w A6 m.an.length m.an) (k6 : m.an.length ≤ c6) (h7 : recK.C w A7 m.au.length m.au) (k7 : m.au.length ≤ c7) (h8 : recK.C w A8 m.ex.length m.ex) (k8 : m.ex.length ≤ c8)
    (hq : ∀ q ∈ m.qs, q.name.length < 4294967281) (hr : ∀ r ∈ m.all, r.Fit) (hl : (m.an.length + m.au.length + m.ex.length) * 96 ≤ 140737488355328) (hql : m.qs.length ≤ 140737488355328) (hw : writeM m = (out, er)) :
    Calls Tryz.prog 39 #[.agg (msgA m (.slice A5 m.qs.length c5) (.slice A6 m.an.length c6) (.slice A7 m.au.length c7) (.slice A8 m.ex.length c8))] w (Gives2 bytesK erK out er w) := by
  have hqn := (C_len h5).2
  obtain ⟨id, rp, op, co, fl, qs, an, au, ex⟩ := m
  dsimp only at h5 h6 h7 h8 k5 k6 k7 k8 hq hl hqn hql
  show Calls Tryz.prog 39 #[.agg #[.int .i64 id, .bool rp, .int .i64 op, .int .i64 co, .int .i64 fl, .slice A5 qs.length c5, .slice A6 an.length c6, .slice A7 au.length c7, .slice A8 ex.length c8]] w (Gives2 bytesK erK out er w)
  have HS := Kp.mk ((St.start hE).alloc (.cells #[.int .i64 id, .bool rp, .int .i64 op, .int .i64 co, .int .i64 fl, .slice A5 qs.length c5, .slice A6 an.length c6, .slice A7 au.length c7, .slice A8 ex.length c8] 71))
  have Hg := Kp.mk (heap_new w (.cells #[.int .i64 id, .bool rp, .int .i64 op, .int .i64 co, .int .i64 fl, .slice A5 qs.length c5, .slice A6 an.length c6, .slice A7 au.length c7, .slice A8 ex.length c8] 71))
  have g0 := blk_cell Hg.out 0
  have g1 := blk_cell Hg.out 1
  have g2 := blk_cell Hg.out 2
  have g3 := blk_cell Hg.out 3
  have g4 := blk_cell Hg.out 4
  have g5 := blk_cell Hg.out 5
  have g6 := blk_cell Hg.out 6
  have g7 := blk_cell Hg.out 7
  have g8 := blk_cell Hg.out 8
  have HA := Kp.mk (fun (W : World) (hB : Below w.heap.size w W) => all_calls A6 A7 A8 c6 c7 c8 an au ex W (Kd.C_below h6 hB) k6 (Kd.C_below h7 hB) k7 (Kd.C_below h8 hB) k8 hl)
  have H5 := Kp.mk h5
  have HQ := Kp.mk hq
  have HRF := Kp.mk hr
  have HW := Kp.mk hw
  have HSa := Kp.mk (HS.out.alloc (.cells #[.slice A6 an.length c6, .slice A7 au.length c7, .slice A8 ex.length c8] 69))
  obtain ⟨al, hal⟩ : ∃ al, an ++ au ++ ex = al := ⟨_, rfl⟩
  have hall : Msg.all ⟨id, rp, op, co, fl, qs, an, au, ex⟩ = al := hal
  have HAL := Kp.mk hall
  have hals : al.length = an.length + au.length + ex.length := by rw [← hal, List.length_append, List.length_append]
  rw [hal] at HA
  have HALS := Kp.mk hals
  have hz1 : (w.alloc (.cells #[.int .i64 id, .bool rp, .int .i64 op, .int .i64 co, .int .i64 fl, .slice A5 qs.length c5, .slice A6 an.length c6, .slice A7 au.length c7, .slice A8 ex.length c8] 71)).heap.size = w.heap.size + 1 := by simp
  have hA1 := HA.out (w.alloc (.cells #[.int .i64 id, .bool rp, .int .i64 op, .int .i64 co, .int .i64 fl, .slice A5 qs.length c5, .slice A6 an.length c6, .slice A7 au.length c7, .slice A8 ex.length c8] 71)) HS.out.below
  rw [hz1] at hA1
  have HA1 := Kp.mk hA1
  have HZ1 := Kp.mk hz1
  clear hE h5 h6 h7 h8 hq hr hw hal hall hals hz1 hA1 HA
  go_enter Tryz.func39, Tryz.ntmps39
  go_wp2_with (fail)
  refine HA1.out.mono ?_
  rintro e1 w1 ⟨⟨A, c, rfl, hpl, hc, hC⟩, hB⟩
  have HPL := Kp.mk hpl
  clear hpl
  have HS1 := Kp.mk (HSa.out.step hB)
  have Hal := Kp.mk ((Below.refl (w.alloc (.cells #[.int .i64 id, .bool rp, .int .i64 op, .int .i64 co, .int .i64 fl, .slice A5 qs.length c5, .slice A6 an.length c6, .slice A7 au.length c7, .slice A8 ex.length c8] 71)).heap.size (w.alloc (.cells #[.int .i64 id, .bool rp, .int .i64 op, .int .i64 co, .int .i64 fl, .slice A5 qs.length c5, .slice A6 an.length c6, .slice A7 au.length c7, .slice A8 ex.length c8] 71))).alloc (Nat.le_refl _) (.cells #[.slice A6 an.length c6, .slice A7 au.length c7, .slice A8 ex.length c8] 69))
  have Hg1 := Kp.mk ((hB.block _ (heap_lt ((Hal.out.block _ (heap_lt Hg.out)).trans Hg.out))).trans ((Hal.out.block _ (heap_lt Hg.out)).trans Hg.out))
  have HC1 := Kp.mk hC
  clear g0 g1 g2 g3 g4 g5 g6 g7 g8 hB Hal hC HA1
  have g0 := blk_cell Hg1.out 0
  have g2 := blk_cell Hg1.out 2
  have g3 := blk_cell Hg1.out 3
  have g4 := blk_cell Hg1.out 4
  have g5 := blk_cell Hg1.out 5
  obtain ⟨b0, hb0⟩ : ∃ b, inB id 65535 = b := ⟨_, rfl⟩
  obtain ⟨b1, hb1⟩ : ∃ b, inB op 15 = b := ⟨_, rfl⟩
  obtain ⟨b2, hb2⟩ : ∃ b, inB co 15 = b := ⟨_, rfl⟩
  obtain ⟨b3, hb3⟩ : ∃ b, inB fl 127 = b := ⟨_, rfl⟩
  obtain ⟨b4, hb4⟩ : ∃ b, decide (qs.length + al.length ≤ 64) = b := ⟨_, rfl⟩
  have HOK : Kp (Msg.headOk ⟨id, rp, op, co, fl, qs, an, au, ex⟩ = (b0 && (b1 && (b2 && (b3 && b4))))) := ⟨by unfold Msg.headOk; dsimp only; rw [HAL.out, hb0, hb1, hb2, hb3, hb4]⟩
  cases b0
  · clear hb1 hb2 hb3 hb4
    obtain ⟨rfl, rfl⟩ : ([] : List Int) = out ∧ Er.code 1 = er := by
      have h1 := head_bad (m := ⟨id, rp, op, co, fl, qs, an, au, ex⟩) (by rw [HOK.out]; rfl)
      rw [HW.out] at h1
      exact ⟨(congrArg Prod.fst h1).symm, (congrArg Prod.snd h1).symm⟩
    go_wp2_with (go_at_call 77; refine q_ (dwithin_calls _ _ _) ?_)
    go_ret2
    exact ⟨_, _, rfl, ⟨_, rfl, Kd.R_nil _ _ _ _ _⟩, er_code _ _ _ _, HS1.out.below⟩
  cases b1
  · clear hb2 hb3 hb4
    obtain ⟨rfl, rfl⟩ : ([] : List Int) = out ∧ Er.code 1 = er := by
      have h1 := head_bad (m := ⟨id, rp, op, co, fl, qs, an, au, ex⟩) (by rw [HOK.out]; rfl)
      rw [HW.out] at h1
      exact ⟨(congrArg Prod.fst h1).symm, (congrArg Prod.snd h1).symm⟩
    go_wp2_with (go_at_call 77; refine q_ (dwithin_calls _ _ _) ?_)
    go_ret2
    exact ⟨_, _, rfl, ⟨_, rfl, Kd.R_nil _ _ _ _ _⟩, er_code _ _ _ _, HS1.out.below⟩
  cases b2
  · clear hb3 hb4
    obtain ⟨rfl, rfl⟩ : ([] : List Int) = out ∧ Er.code 1 = er := by
      have h1 := head_bad (m := ⟨id, rp, op, co, fl, qs, an, au, ex⟩) (by rw [HOK.out]; rfl)
      rw [HW.out] at h1
      exact ⟨(congrArg Prod.fst h1).symm, (congrArg Prod.snd h1).symm⟩
    go_wp2_with (go_at_call 77; refine q_ (dwithin_calls _ _ _) ?_)
    go_ret2
    exact ⟨_, _, rfl, ⟨_, rfl, Kd.R_nil _ _ _ _ _⟩, er_code _ _ _ _, HS1.out.below⟩
  cases b3
  · clear hb4
    obtain ⟨rfl, rfl⟩ : ([] : List Int) = out ∧ Er.code 1 = er := by
      have h1 := head_bad (m := ⟨id, rp, op, co, fl, qs, an, au, ex⟩) (by rw [HOK.out]; rfl)
      rw [HW.out] at h1
      exact ⟨(congrArg Prod.fst h1).symm, (congrArg Prod.snd h1).symm⟩
    go_wp2_with (go_at_call 77; refine q_ (dwithin_calls _ _ _) ?_)
    go_ret2
    exact ⟨_, _, rfl, ⟨_, rfl, Kd.R_nil _ _ _ _ _⟩, er_code _ _ _ _, HS1.out.below⟩
  cases b4
  · have h64 : ¬ (qs.length + al.length ≤ 64) := by simpa using hb4
    have b4 : decide ((64 : Int) < (qs.length : Int) + (al.length : Int)) = true := by simp; omega
    have hz1 : al.length ≤ 140737488355328 := by have := HALS.out; omega
    clear hb4 h64
    obtain ⟨rfl, rfl⟩ : ([] : List Int) = out ∧ Er.code 1 = er := by
      have h1 := head_bad (m := ⟨id, rp, op, co, fl, qs, an, au, ex⟩) (by rw [HOK.out]; rfl)
      rw [HW.out] at h1
      exact ⟨(congrArg Prod.fst h1).symm, (congrArg Prod.snd h1).symm⟩
    go_wp2_with (go_at_call 77; refine q_ (dwithin_calls _ _ _) ?_)
    go_ret2
    exact ⟨_, _, rfl, ⟨_, rfl, Kd.R_nil _ _ _ _ _⟩, er_code _ _ _ _, HS1.out.below⟩
  have h64 : qs.length + al.length ≤ 64 := by simpa using hb4
  have b4 : decide ((64 : Int) < (qs.length : Int) + (al.length : Int)) = false := by simp; omega
  have i0 : 0 ≤ id ∧ id ≤ 65535 := by simpa [inB] using hb0
  have i1 : 0 ≤ op ∧ op ≤ 15 := by simpa [inB] using hb1
  have i2 : 0 ≤ co ∧ co ≤ 15 := by simpa [inB] using hb2
  have i3 : 0 ≤ fl ∧ fl ≤ 127 := by simpa [inB] using hb3
  obtain ⟨i00, i01⟩ := i0
  obtain ⟨i10, i11⟩ := i1
  obtain ⟨i20, i21⟩ := i2
  obtain ⟨i30, i31⟩ := i3
  have g1 := blk_cell Hg1.out 1
  clear hb4
  obtain ⟨o1, o2, o3⟩ := or_flags op fl co ⟨i10, i11⟩ ⟨i30, i31⟩ ⟨i20, i21⟩
  obtain ⟨fb, hfb⟩ : ∃ fb, Msg.bits ⟨id, rp, op, co, fl, qs, an, au, ex⟩ = fb := ⟨_, rfl⟩
  have hfb2 : fb = op * 2048 + fl * 16 + co + (if rp then 32768 else 0) := hfb.symm
  have hfr : 0 ≤ fb ∧ fb ≤ 65535 := by rw [hfb2]; cases rp <;> simp <;> omega
  obtain ⟨hfr0, hfr1⟩ := hfr
  have HFB := Kp.mk hfb
  have HFB2 := Kp.mk hfb2
  clear hfb hfb2
  go_upto_if 68 with (go_at_call 77; refine q_ (dwithin_calls _ _ _) ?_)
  go_cut [5] (fun f wx => f = .int .i64 fb ∧ wx = w1)
  case first =>
    have h2 := HFB2.out
    cases rp
    · rw [if_neg (by decide), Int.add_zero] at h2
      have H2 := Kp.mk h2
      clear h2
      go_wp2
      go_meet
      exact ⟨by rw [H2.out], rfl⟩
    · rw [if_pos rfl] at h2
      have H2 := Kp.mk h2
      clear h2
      go_wp2
      go_meet
      exact ⟨by rw [H2.out], rfl⟩
  case rest =>
    obtain ⟨rfl, rfl⟩ := hcut
    clear o1 o2 o3 hb0 hb1 hb2 hb3 b4 g1 g2 g3 g4 g5
    have g0 := blk_cell Hg1.out 0
    have HSb : Kp (St wc wc) := ⟨⟨Below.refl _ _, HS1.out.env⟩⟩
    go_wp2_with (fail)
    refine gs_ (put16_calls none 0 0 [] id _ (R_C (Kd.R_nil (Kd.int .u8) 5 _ 0 (fun _ => True))).1 (Nat.le_refl _) (by decide) i00 i01) HSb ?_
    intro A2 c2 w2 hc2 hcm2 HC2 HM2 HB2 HS2
    go_wp2_with (fail)
    refine gs_ (put16_calls A2 _ c2 _ fb _ HC2.out hc2 (by simp [be16]) hfr0 hfr1) HS2 ?_
    intro A3 c3 w3 hc3 hcm3 HC3 HM3 HB3 HS3
    obtain ⟨l4, hl4⟩ : ∃ l4, [] ++ be16 id ++ be16 fb = l4 := ⟨_, rfl⟩
    have hl4n : l4.length = 4 := by rw [← hl4]; rfl
    have hR3 := Kd.R_lower (slice_MR HM3.out) HS2.out.size
    rw [hl4] at hR3 ⊢
    have HR3 := Kp.mk hR3
    have HL4 := Kp.mk hl4
    have HL4N := Kp.mk hl4n
    have Hg3 := Kp.mk ((HS3.out.below.block _ (heap_lt Hg1.out)).trans Hg1.out)
    clear HC2 HM2 HB2 HC3 HM3 HB3 HS2 hR3 hl4 hl4n hc2 hcm2 hc3 hcm3 HSb g0 HFB2
    have g5 := blk_cell Hg3.out 5
    have g6 := blk_cell Hg3.out 6
    have g7 := blk_cell Hg3.out 7
    have g8 := blk_cell Hg3.out 8
    have ha1 : an.length ≤ 64 := by have := HALS.out; omega
    have ha2 : au.length ≤ 64 := by have := HALS.out; omega
    have ha3 : ex.length ≤ 64 := by have := HALS.out; omega
    go_wp2_with (fail)
    go_loopw [6, 89] (fun v i wr => ∃ (k : Nat) (Ah : Option Addr) (ch : Nat), k ≤ 4 ∧ i = .int .i64 k ∧ v = .slice Ah (hdM l4 qs.length an.length au.length ex.length k).length ch ∧ Kp ((Kd.int .u8).R 5 wr wc.heap.size (fun _ => True) (.slice Ah (hdM l4 qs.length an.length au.length ex.length k).length ch) (hdM l4 qs.length an.length au.length ex.length k)) ∧ Kp (St wc wr)) (fun _ i _ => 4 - (intOf i).toNat)
    case atStart => exact ⟨0, A3, c3, by decide, rfl, rfl, HR3, HS3⟩
    case round =>
      obtain ⟨k, Ah, ch, hk, rfl, rfl, HRh, HSr⟩ := hrel
      match k, hk with
      | 0, _ =>
        have hix := (run_index_four qs.length an.length au.length ex.length wr).1
        have HP := Kp.mk (put16_calls Ah _ ch (hdM l4 qs.length an.length au.length ex.length 0) qs.length wr (R_C HRh.out).1 (R_C HRh.out).2 (by have := HL4N.out; simp [hdM, be16]; omega) (by omega) (by omega))
        clear HR3 HS3 Hg3 g5 g6 g7 g8
        go_wp2_with (fail)
        refine gs_ HP.out HSr ?_
        intro A4 c4 w4 hc4 hcm4 HC4 HM4 HB4 HS4
        go_wp2
        exact ⟨⟨1, A4, c4, by decide, by go_num, (by rw [← List.length_append]; rfl), ⟨Kd.R_lower (slice_MR HM4.out) HSr.out.size⟩, HS4⟩, by simp [intOf]⟩
      | 1, _ =>
        have hix := (run_index_four qs.length an.length au.length ex.length wr).2.1
        have HP := Kp.mk (put16_calls Ah _ ch (hdM l4 qs.length an.length au.length ex.length 1) an.length wr (R_C HRh.out).1 (R_C HRh.out).2 (by have := HL4N.out; simp [hdM, be16]; omega) (by omega) (by omega))
        clear HR3 HS3 Hg3 g5 g6 g7 g8
        go_wp2_with (fail)
        refine gs_ HP.out HSr ?_
        intro A4 c4 w4 hc4 hcm4 HC4 HM4 HB4 HS4
        go_wp2
        exact ⟨⟨2, A4, c4, by decide, by go_num, (by rw [← List.length_append]; rfl), ⟨Kd.R_lower (slice_MR HM4.out) HSr.out.size⟩, HS4⟩, by simp [intOf]⟩
      | 2, _ =>
        have hix := (run_index_four qs.length an.length au.length ex.length wr).2.2.1
        have HP := Kp.mk (put16_calls Ah _ ch (hdM l4 qs.length an.length au.length ex.length 2) au.length wr (R_C HRh.out).1 (R_C HRh.out).2 (by have := HL4N.out; simp [hdM, be16]; omega) (by omega) (by omega))
        clear HR3 HS3 Hg3 g5 g6 g7 g8
        go_wp2_with (fail)
        refine gs_ HP.out HSr ?_
        intro A4 c4 w4 hc4 hcm4 HC4 HM4 HB4 HS4
        go_wp2
        exact ⟨⟨3, A4, c4, by decide, by go_num, (by rw [← List.length_append]; rfl), ⟨Kd.R_lower (slice_MR HM4.out) HSr.out.size⟩, HS4⟩, by simp [intOf]⟩
      | 3, _ =>
        have hix := (run_index_four qs.length an.length au.length ex.length wr).2.2.2
        have HP := Kp.mk (put16_calls Ah _ ch (hdM l4 qs.length an.length au.length ex.length 3) ex.length wr (R_C HRh.out).1 (R_C HRh.out).2 (by have := HL4N.out; simp [hdM, be16]; omega) (by omega) (by omega))
        clear HR3 HS3 Hg3 g5 g6 g7 g8
        go_wp2_with (fail)
        refine gs_ HP.out HSr ?_
        intro A4 c4 w4 hc4 hcm4 HC4 HM4 HB4 HS4
        go_wp2
        exact ⟨⟨4, A4, c4, by decide, by go_num, (by rw [← List.length_append]; rfl), ⟨Kd.R_lower (slice_MR HM4.out) HSr.out.size⟩, HS4⟩, by simp [intOf]⟩
      | 4, _ =>
        rw [show (Value.int .i64 ((4 : Nat) : Int)) = Value.int .i64 4 from rfl]
        obtain ⟨hd, hhd⟩ : ∃ hd, hdM l4 qs.length an.length au.length ex.length 4 = hd := ⟨_, rfl⟩
        have hhm : Msg.head ⟨id, rp, op, co, fl, qs, an, au, ex⟩ = hd := by rw [← hhd, ← HL4.out]; unfold Msg.head hdM; rw [HFB.out]; rfl
        have hhl : hd.length = 12 := by rw [← hhd]; simp [hdM, be16, HL4N.out]
        rw [hhd] at HRh ⊢
        have HHM := Kp.mk hhm
        have Hgr := Kp.mk ((HSr.out.below.block _ (heap_lt Hg1.out)).trans Hg1.out)
        obtain ⟨P, hP0, hPs, hPn⟩ := pre_ex Qu.wire hd qs
        have HP0 := Kp.mk hP0
        have HPs := Kp.mk hPs
        have HPn := Kp.mk hPn
        have HHL := Kp.mk hhl
        have HB1 := Kp.mk HS1.out.below
        have HRh0 : Kp ((Kd.int .u8).R 5 wr wc.heap.size (fun _ => True) (.slice Ah (P 0).length ch) (P 0)) := ⟨by rw [HP0.out]; exact HRh.out⟩
        have hs0 : hd.length = (P 0).length := by rw [hP0]
        rw [hs0]
        clear HR3 HS3 Hg3 g5 g6 g7 g8 hhd hhm hhl hP0 hPs hPn hs0 HRh
        have g5 := blk_cell Hgr.out 5
        go_wp2_with (fail)
        go_loopw [6, 99] (fun v i w2 => ∃ (k : Nat) (A2 : Option Addr) (c2 : Nat), k ≤ qs.length ∧ i = .int .i64 k ∧ v = .slice A2 (P k).length c2 ∧ Kp ((Kd.int .u8).R 5 w2 wc.heap.size (fun _ => True) (.slice A2 (P k).length c2) (P k)) ∧ Kp (St wc w2) ∧ Kp (∀ (j : Nat) (q : Qu), j < k → qs[j]? = some q → q.right = true) ∧ Kp ((P k).length ≤ 12 + 260 * k)) (fun _ i _ => qs.length - (intOf i).toNat)
        case atStart => exact ⟨0, Ah, ch, Nat.zero_le _, rfl, rfl, HRh0, HSr, ⟨fun j q hj => absurd hj (Nat.not_lt_zero _)⟩, ⟨by rw [HP0.out, HHL.out]; omega⟩⟩
        case round =>
          obtain ⟨k, A2, c2, hk2, rfl, rfl, HR2, HS2, HOKq, HLk⟩ := hrel
          by_cases hlt : k < qs.length
          · obtain ⟨ad, rfl, d0, d1, d2⟩ := at_qu (Kd.C_below (Kd.C_below H5.out HB1.out) HS2.out.below) k hlt
            have hget : qs[k]? = some (qs.getD k Qu.zero) := by rw [List.getD_eq_getElem?_getD, List.getElem?_eq_getElem hlt]; rfl
            have hqm := HQ.out _ (getD_mem qs Qu.zero k hlt)
            obtain ⟨q, hqe⟩ : ∃ q, qs.getD k Qu.zero = q := ⟨_, rfl⟩
            rw [hqe] at d0 d1 d2 hget hqm
            obtain ⟨qn, qt, qc⟩ := q
            have HGET := Kp.mk hget
            have HMEM := Kp.mk (List.mem_of_getElem? hget)
            have HSq := Kp.mk (HS2.out.alloc (.cells #[.string (mkB qn), .int .i64 qt, .int .i64 qc] 54))
            clear hqe hget g5
            dsimp only at d0 d1 d2 hqm
            go_wp2_with (fail)
            refine g2_ (wq_calls ⟨qn, qt, qc⟩ _ HSq.out.env hqm) HSq ?_
            intro v3 v3e w3 HM3 HE3 HB3 HS3
            have HSc := Kp.mk HSq.out
            clear d0 d1 d2 HSq
            by_cases hqr : Qu.right ⟨qn, qt, qc⟩ = true
            · have hm := HM3.out
              have he := HE3.out
              rw [if_pos hqr] at hm he
              obtain rfl := er_open_none (erK.K_of_M he)
              obtain ⟨A3', c3', rfl, hc3', hC3'⟩ := slice_open ((Kd.slice 5 (Kd.int .u8)).K_of_M hm)
              have hwl := wireQ_le _ hqr
              have hps := HPs.out k _ HGET.out
              obtain ⟨wq, hwq⟩ : ∃ wq, Qu.wire ⟨qn, qt, qc⟩ = wq := ⟨_, rfl⟩
              rw [hwq] at hwl hps hc3' hC3' ⊢
              have hPk := Kd.C_below (R_C HR2.out).1 (below_step ((Below.refl _ _).alloc (Nat.le_refl _) (.cells #[.string (mkB qn), .int .i64 qt, .int .i64 qc] 54)) HB3.out)
              have HCAT := Kp.mk (concat2_calls A2 A3' c2 c3' (P k) wq w3 hPk (R_C HR2.out).2 hC3' hc3' (by have := HLk.out; omega))
              have HSl := Kp.mk (HS3.out.alloc (.cells #[.slice A2 (P k).length c2, .slice A3' wq.length c3'] 24))
              have HPS := Kp.mk hps
              have hk1 : k + 1 ≤ qs.length := hlt
              have HLEN : Kp ((P (k + 1)).length ≤ 12 + 260 * (k + 1)) := ⟨by rw [hps, List.length_append]; have := HLk.out; omega⟩
              have HOK2 : Kp (∀ (j : Nat) (q : Qu), j < k + 1 → qs[j]? = some q → q.right = true) := ⟨fun j q hj hq => by
                by_cases hjk : j < k
                · exact HOKq.out j q hjk hq
                · obtain rfl : j = k := by omega
                  have h2 := HGET.out
                  rw [hq] at h2
                  injection h2 with h2
                  rw [h2]
                  exact hqr⟩
              have HME : Kp (qs.length - (k + 1) < qs.length - k) := ⟨by omega⟩
              clear hm he hwl hps hwq hPk hC3' HM3 HE3 hqr HR2 HLk HOKq HB3
              go_wp2_with (fail)
              refine gs_ HCAT.out HSl ?_
              intro A4 c4 w4 hc4 hcm4 HC4 HM4 HB4 HS4
              have HR4 := Kp.mk (Kd.R_lower (slice_MR HM4.out) HSl.out.size)
              rw [← HPS.out] at HR4 ⊢
              clear HC4 HM4 HB4 hc4 hcm4
              go_wp2
              refine ⟨⟨k + 1, A4, c4, hk1, by go_num, rfl, HR4, HS4, HOK2, HLEN⟩, ?_⟩
              have hi1 : (intOf (Value.int .i64 ((k : Int) + 1))).toNat = k + 1 := by simp [intOf] <;> omega
              have hi2 : (intOf (Value.int .i64 (k : Int))).toNat = k := by simp [intOf]
              rw [hi1, hi2]
              exact HME.out
            · have hm := HM3.out
              have he := HE3.out
              rw [if_neg hqr] at hm he
              obtain rfl := er_open_code (erK.K_of_M he)
              obtain ⟨A3', c3', rfl, -, -⟩ := slice_open ((Kd.slice 5 (Kd.int .u8)).K_of_M hm)
              obtain ⟨rfl, rfl⟩ : ([] : List Int) = out ∧ Er.code 1 = er := by
                have h1 := qs_bad (m := ⟨id, rp, op, co, fl, qs, an, au, ex⟩) HOK.out HMEM.out (by simpa using hqr)
                rw [HW.out] at h1
                exact ⟨(congrArg Prod.fst h1).symm, (congrArg Prod.snd h1).symm⟩
              clear hm he HM3 HE3
              go_wp2
              go_ret2
              exact ⟨_, _, rfl, ⟨_, rfl, Kd.R_nil _ _ _ _ _⟩, er_code _ _ _ _, below_step HB1.out HS3.out.below⟩
          · obtain rfl : k = qs.length := by omega
            have hallq : (qs.all Qu.right) = true := List.all_eq_true.2 (fun q hq => by
              obtain ⟨j, hj, he⟩ := List.mem_iff_getElem.1 hq
              exact HOKq.out j q hj (by rw [List.getElem?_eq_getElem hj, he]))
            have HALLQ := Kp.mk hallq
            obtain ⟨l2, hl2⟩ : ∃ l2, P qs.length = l2 := ⟨_, rfl⟩
            have hl2e : l2 = hd ++ (qs.map Qu.wire).flatten := by rw [← hl2]; exact HPn.out
            rw [hl2] at HR2 HLk ⊢
            obtain ⟨O, hO0, hOs, hOn⟩ := pre_ex Rec.wire l2 al
            have HO0 := Kp.mk hO0
            have HOs := Kp.mk hOs
            have HOn := Kp.mk hOn
            have HL2 := Kp.mk hl2e
            have HRo : Kp ((Kd.int .u8).R 5 wr wc.heap.size (fun _ => True) (.slice A2 (O 0).length c2) (O 0)) := ⟨by rw [HO0.out]; exact HR2.out⟩
            have hs0 : l2.length = (O 0).length := by rw [hO0]
            have HLo : Kp ((O 0).length ≤ 20000) := ⟨by rw [hO0]; have := HLk.out; omega⟩
            rw [hs0]
            clear hallq hl2 hl2e hO0 hOs hOn hs0 HR2 HLk HRh0 HPs HP0 HPn hlt hk2 HOKq g5
            go_wp2_with (fail)
            go_loopw [6, 118] (fun v i w2 => ∃ (k : Nat) (A2 : Option Addr) (c2 : Nat), k ≤ al.length ∧ i = .int .i64 k ∧ v = .slice A2 (O k).length c2 ∧ Kp ((Kd.int .u8).R 5 w2 wc.heap.size (fun _ => True) (.slice A2 (O k).length c2) (O k)) ∧ Kp (St wc w2) ∧ Kp (∀ (j : Nat) (r : Rec), j < k → al[j]? = some r → r.right = true) ∧ Kp ((O k).length ≤ 20000 + 1300 * k)) (fun _ i _ => al.length - (intOf i).toNat)
            case atStart => exact ⟨0, A2, c2, Nat.zero_le _, rfl, rfl, HRo, HS2, ⟨fun j r hj => absurd hj (Nat.not_lt_zero _)⟩, ⟨by have := HLo.out; omega⟩⟩
            case round =>
              obtain ⟨k, A2, c2, hk3, rfl, rfl, HR3, HS3, HOKr, HLr⟩ := hrel
              by_cases hlt : k < al.length
              · obtain ⟨ad, cs, rfl, -, hK, hcell⟩ := Kd.C_get (Kd.C_below HC1.out HS3.out.below) Rec.zero (k : Int) (by omega) (by omega)
                rw [Int.toNat_natCast] at hK hcell
                obtain ⟨g, rfl⟩ := HPL.out ad rfl
                have hget : al[k]? = some (al.getD k Rec.zero) := by rw [List.getD_eq_getElem?_getD, List.getElem?_eq_getElem hlt]; rfl
                have hfit := HRF.out (al.getD k Rec.zero) (by rw [HAL.out]; exact getD_mem al Rec.zero k hlt)
                obtain ⟨r, hre⟩ : ∃ r, al.getD k Rec.zero = r := ⟨_, rfl⟩
                rw [hre] at hK hget hfit
                obtain ⟨rn, rt, rc, rtl, ⟨v6, b⟩, rtg, rd⟩ := r
                obtain ⟨Ar, cr, rfl, hdr, hCr⟩ := recK_open hK
                have e23 : recK.sz = 23 := rfl
                rw [e23] at hcell
                have HRG : Kp (wr.rangeAt g (k * 23) [.string (mkB rn), .int .i64 rt, .int .i64 rc, .int .u32 rtl, .bool v6, .int .u8 (b 0), .int .u8 (b 1), .int .u8 (b 2), .int .u8 (b 3), .int .u8 (b 4), .int .u8 (b 5), .int .u8 (b 6), .int .u8 (b 7), .int .u8 (b 8), .int .u8 (b 9), .int .u8 (b 10), .int .u8 (b 11), .int .u8 (b 12), .int .u8 (b 13), .int .u8 (b 14), .int .u8 (b 15), .string (mkB rtg), .slice Ar rd.length cr]) := ⟨fun j v hj => by have := hcell j v hj; rw [add_plain] at this; exact this⟩
                have HGET := Kp.mk hget
                have HMEM := Kp.mk (List.mem_of_getElem? hget)
                have HFIT := Kp.mk hfit
                have HCr := Kp.mk hCr
                have HZ := Kp.mk (HS3.out.below.alloc HS3.out.size (.cells #[.string ⟨#[]⟩, .int .i64 0, .int .i64 0, .int .u32 0, .bool false, .int .u8 0, .int .u8 0, .int .u8 0, .int .u8 0, .int .u8 0, .int .u8 0, .int .u8 0, .int .u8 0, .int .u8 0, .int .u8 0, .int .u8 0, .int .u8 0, .int .u8 0, .int .u8 0, .int .u8 0, .int .u8 0, .string ⟨#[]⟩, .slice none 0 0] 37))
                clear hre hget hK hcell e23 hfit hCr
                dsimp only at hdr
                go_wp2_with (first
                  | (with_reducible refine wpList_load_mid rfl 37 (.tmp 120) rfl g (k * 23) rfl _ _ HRG.out Tryz.underlying37 (by kernel_rfl) (by kernel_rfl) ?_)
                  | (with_reducible refine st_blk (w0 := wc) (base := wc.heap.size) rfl 37 (.tmp 14) (.tmp 121) rfl rfl wr.heap.size _ rfl rfl ⟨heap_new _ _⟩ (by kernel_rfl) (by kernel_rfl) (by kernel_rfl) HZ HS3.out.size ?_))
                intro w3 Hg3 HO3 HB3 hs3
                have hB23 := stored_new HS3.out.below HB3.out (hs3.trans (by simp)) HO3.out
                have HSr := Kp.mk (HS3.out.step hB23)
                have HCr3 := Kp.mk (Kd.C_below HCr.out hB23)
                have HO3 := Kp.mk (Kd.C_below (R_C HR3.out).1 hB23)
                have hOc := (R_C HR3.out).2
                clear hs3 hB23 HB3 HZ HCr HRG HR3
                go_wp2_with (with_reducible refine ld_blk rfl 37 (.tmp 14) rfl wr.heap.size rfl Hg3 Tryz.underlying37 rfl (by kernel_rfl) ?_)
                refine g2_ (wr_calls ⟨rn, rt, rc, rtl, ⟨v6, b⟩, rtg, rd⟩ Ar cr _ HSr.out.env HCr3.out hdr HFIT.out) HSr ?_
                intro v4 v4e w4 HM4 HE4 HB4 HS4
                clear HCr3 Hg3
                by_cases hqr : Rec.right ⟨rn, rt, rc, rtl, ⟨v6, b⟩, rtg, rd⟩ = true
                · have hm := HM4.out
                  have he := HE4.out
                  rw [if_pos hqr] at hm he
                  obtain rfl := er_open_none (erK.K_of_M he)
                  obtain ⟨A3', c3', rfl, hc3', hC3'⟩ := slice_open ((Kd.slice 5 (Kd.int .u8)).K_of_M hm)
                  have hwl := wire_le _ hqr
                  have hps := HOs.out k _ HGET.out
                  obtain ⟨wq, hwq⟩ : ∃ wq, Rec.wire ⟨rn, rt, rc, rtl, ⟨v6, b⟩, rtg, rd⟩ = wq := ⟨_, rfl⟩
                  rw [hwq] at hwl hps hc3' hC3' ⊢
                  have hk1 : k + 1 ≤ al.length := hlt
                  have HCAT := Kp.mk (concat2_calls A2 A3' c2 c3' (O k) wq w4 (Kd.C_below HO3.out HB4.out) hOc hC3' hc3' (by have := HLr.out; omega))
                  have HSl := Kp.mk (HS4.out.alloc (.cells #[.slice A2 (O k).length c2, .slice A3' wq.length c3'] 24))
                  have HPS := Kp.mk hps
                  have HLEN : Kp ((O (k + 1)).length ≤ 20000 + 1300 * (k + 1)) := ⟨by rw [hps, List.length_append]; have := HLr.out; omega⟩
                  have HOK2 : Kp (∀ (j : Nat) (r : Rec), j < k + 1 → al[j]? = some r → r.right = true) := ⟨fun j q hj hq => by
                    by_cases hjk : j < k
                    · exact HOKr.out j q hjk hq
                    · obtain rfl : j = k := by omega
                      have h2 := HGET.out
                      rw [hq] at h2
                      injection h2 with h2
                      rw [h2]
                      exact hqr⟩
                  have HME : Kp (al.length - (k + 1) < al.length - k) := ⟨by omega⟩
                  clear hm he hwl hps hwq hC3' HM4 HE4 hqr HLr HOKr HB4 HO3
                  go_wp2_with (fail)
                  refine gs_ HCAT.out HSl ?_
                  intro A4 c4 w5 hc4 hcm4 HC4 HM5 HB5 HS5
                  have HR5 := Kp.mk (Kd.R_lower (slice_MR HM5.out) HSl.out.size)
                  rw [← HPS.out] at HR5 ⊢
                  clear HC4 HM5 HB5 hc4 hcm4
                  go_wp2
                  refine ⟨⟨k + 1, A4, c4, hk1, by go_num, rfl, HR5, HS5, HOK2, HLEN⟩, ?_⟩
                  have hi1 : (intOf (Value.int .i64 ((k : Int) + 1))).toNat = k + 1 := by simp [intOf] <;> omega
                  have hi2 : (intOf (Value.int .i64 (k : Int))).toNat = k := by simp [intOf]
                  rw [hi1, hi2]
                  exact HME.out
                · have hm := HM4.out
                  have he := HE4.out
                  rw [if_neg hqr] at hm he
                  obtain rfl := er_open_code (erK.K_of_M he)
                  obtain ⟨A3', c3', rfl, -, -⟩ := slice_open ((Kd.slice 5 (Kd.int .u8)).K_of_M hm)
                  obtain ⟨rfl, rfl⟩ : ([] : List Int) = out ∧ Er.code 1 = er := by
                    have h1 := rs_bad (m := ⟨id, rp, op, co, fl, qs, an, au, ex⟩) HOK.out HALLQ.out (by rw [HAL.out]; exact HMEM.out) (by simpa using hqr)
                    rw [HW.out] at h1
                    exact ⟨(congrArg Prod.fst h1).symm, (congrArg Prod.snd h1).symm⟩
                  clear hm he HM4 HE4
                  go_wp2
                  go_ret2
                  exact ⟨_, _, rfl, ⟨_, rfl, Kd.R_nil _ _ _ _ _⟩, er_code _ _ _ _, below_step HB1.out HS4.out.below⟩
              · obtain rfl : k = al.length := by omega
                have hallr : (al.all Rec.right) = true := List.all_eq_true.2 (fun r hr => by
                  obtain ⟨j, hj, he⟩ := List.mem_iff_getElem.1 hr
                  exact HOKr.out j r hj (by rw [List.getElem?_eq_getElem hj, he]))
                obtain ⟨ws, hws⟩ : ∃ ws, O al.length = ws := ⟨_, rfl⟩
                have hwire : Msg.wire ⟨id, rp, op, co, fl, qs, an, au, ex⟩ = ws := by
                  rw [← hws, HOn.out, HL2.out, ← HHM.out, ← HAL.out]
                  rfl
                have hfin : (out, er) = if 4000 < ws.length then ([], .code 4) else (ws, .none) := by
                  rw [← HW.out]
                  unfold writeM
                  rw [if_neg (by rw [HOK.out]; simp), if_neg (by show ¬ (qs.all Qu.right) = false; rw [HALLQ.out]; simp), if_neg (by rw [HAL.out, hallr]; simp), hwire]
                rw [hws] at HR3 ⊢
                have HFIN := Kp.mk hfin
                clear hallr hwire hfin hws HOs HOn HO0 HRo HLo HLr HOKr hlt hk3
                by_cases hbig : 4000 < ws.length
                · have bb : decide ((4000 : Int) < (ws.length : Int)) = true := by simp; omega
                  obtain ⟨rfl, rfl⟩ : out = [] ∧ er = Er.code 4 := by
                    have h1 := HFIN.out
                    rw [if_pos hbig] at h1
                    exact ⟨congrArg Prod.fst h1, congrArg Prod.snd h1⟩
                  go_wp2
                  go_ret2
                  exact ⟨_, _, rfl, ⟨_, rfl, Kd.R_nil _ _ _ _ _⟩, er_code _ _ _ _, below_step HB1.out HS3.out.below⟩
                · have bb : decide ((4000 : Int) < (ws.length : Int)) = false := by simp; omega
                  obtain ⟨rfl, rfl⟩ : out = ws ∧ er = Er.none := by
                    have h1 := HFIN.out
                    rw [if_neg hbig] at h1
                    exact ⟨congrArg Prod.fst h1, congrArg Prod.snd h1⟩
                  go_wp2
                  go_ret2
                  exact ⟨_, _, rfl, ⟨_, rfl, Kd.R_lower HR3.out HB1.out.size⟩, er_none _ _ _, below_step HB1.out HS3.out.below⟩
end Go.Proofs.YtclgffblfjhciaaGreatDoor

