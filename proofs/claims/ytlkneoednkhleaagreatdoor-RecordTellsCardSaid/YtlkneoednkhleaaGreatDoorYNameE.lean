/-
  Package name: the walk over a name: read, leap, by their contracts.
-/
import Derived.Test.YtlkneoednkhleaaGreatDoorYNameD
namespace Go.Proofs.YtlkneoednkhleaaGreatDoor
open Go.RowKit Go.Proofs.YtlkneoednkhleaaGreatDoorW.PrintWords
set_option linter.unusedVariables false
set_option linter.unusedSimpArgs false
set_option maxRecDepth 100000
set_option maxHeartbeats 1000000

def lowL (xs : List Int) : L := xs.map fun x => UInt8.ofNat (lowB x).toNat
theorem low_str (xs : List Int) : strOfNums (xs.map lowB) = mkB (lowL xs) := by simp [strOfNums, mkB, lowL]
theorem low_len (xs : List Int) : (lowL xs).length = xs.length := by simp [lowL]
/-- What a label is read as. -/
def lab (xs : List Int) (a n : Int) : L := lowL ((xs.drop (a + 1).toNat).take n.toNat)
/-- read: why there is no label. -/
def readE (xs : List Int) (a n : Int) (ls : List L) : Er :=
  if (xs.length : Int) - n < a + 1 then .fault a 3 else if labelB (mkB (lab xs a n)) = false then .fault a 12 else if 255 < sizeOf_ (ls ++ [lab xs a n]) then .fault a 13 else .none

/-- How a walk lies in memory. -/
structure Walk (w : World) (B q : Nat) (a b e : Int) (v : Value) (ls : List L) : Prop where
  le : B ≤ q
  blk : w.heap[q]? = some (.cells #[.int .i64 a, .int .i64 b, .int .i64 e, v] 135 (0, 0))
  row : Kd.string.R 9 w B (fun _ => True) v (ls.map mkB)
theorem Walk.grow {w w1 : World} {B q : Nat} {a b e : Int} {v : Value} {ls : List L} (h : Walk w B q a b e v ls) (hb : Below w.heap.size w w1) : Walk w1 B q a b e v ls :=
  ⟨h.le, (hb.block q (heap_lt h.blk)).trans h.blk, Kd.R_below h.row hb⟩

theorem askE_short {len a n : Int} (h0 : 0 ≤ a) (hn : 0 < n) (h : len - n < a) : askE len a n = .code 3 := by
  unfold askE
  rw [if_neg (by omega), if_pos ⟨hn, h⟩]
theorem askE_ok {len a n : Int} (h0 : 0 ≤ a) (hn : 0 ≤ n) (h : a ≤ len - n) : askE len a n = .none := by
  unfold askE
  rw [if_neg (by omega), if_neg (by omega)]
theorem partE_short {len a n : Int} (h0 : 0 ≤ a) (hn : 0 < n) (h : len - n < a) : partE len a n = .fault a 3 := by
  unfold partE
  rw [askE_short h0 hn h]
  simp [shortE, Er.num, Er.deeper, Er.place]
theorem partE_ok {len a n : Int} (h0 : 0 ≤ a) (hn : 0 ≤ n) (h : a ≤ len - n) : partE len a n = .none := by
  unfold partE
  rw [askE_ok h0 hn h]
  rfl
theorem partV_short {xs : List Int} {a n : Int} (h0 : 0 ≤ a) (hn : 0 < n) (h : (xs.length : Int) - n < a) : partV xs a n = [] := by
  unfold partV
  rw [askE_short h0 hn h]
  rfl
theorem partV_ok {xs : List Int} {a n : Int} (h0 : 0 ≤ a) (hn : 0 ≤ n) (h : a ≤ xs.length - n) : partV xs a n = (xs.drop a.toNat).take n.toNat := by
  unfold partV
  rw [askE_ok h0 hn h]
  rfl

theorem read_short (q B : Nat) (A : Option Addr) (c : Nat) (xs : List Int) (a b e n : Int) (v : Value) (ls : List L) (w : World) (hw : Walk w B q a b e v ls) (h : (Kd.int .u8).C w A xs.length xs) (hc : xs.length ≤ c) (hcm : c ≤ 9223372036854775807) (hE : Env w) (hl : xs.length ≤ 140737488355328)
    (h0 : 0 ≤ a) (ha : a < xs.length) (hn : 1 ≤ n) (hn2 : n ≤ 63) (hB : B ≤ w.heap.size) (hs : (xs.length : Int) - n < a + 1) :
    Calls Tryz.prog 77 #[.pointer (some ⟨q, 0, none⟩), .slice A xs.length c, .int .i64 n] w fun ev w' => ∃ u, ev = .returned u ∧ erK.M w' B (fun _ => True) (.fault a 3) [u] ∧ Below w.heap.size w w' := by
  have hp : partE xs.length (a + 1) n = .fault (a + 1) 3 := partE_short (by omega) (by omega) hs
  have hv : partV xs (a + 1) n = [] := partV_short (by omega) (by omega) hs
  have H := Kp.mk (part_calls A c xs (a + 1) n w h hc hcm hE hl (by omega) (by omega) (by omega))
  rw [hp, hv] at H
  have HW := Kp.mk hw
  have hcell := blk_cell hw.blk 0
  clear hw h hE hp hv
  go_enter Tryz.func77, Tryz.ntmps77
  go_wp2_with (fail)
  refine H.out.mono ?_
  rintro e1 w1 ⟨v1, v2, rfl, hm1, hm2, hb⟩
  have HM := Kp.mk hm2
  obtain ⟨vv, hvv, -⟩ := hm1
  obtain rfl := List.singleton_inj.1 hvv
  have HB := Kp.mk hb
  have hcell1 := blk_cell (HW.out.grow hb).blk 0
  clear hm2 hvv hb hcell
  go_wp2_with (fail)
  refine (is_calls _ _ 3 _ (erK.K_of_M HM.out) (by decide) true rfl (by intro h; cases h)).mono ?_
  rintro e2 w2 ⟨rfl, rfl⟩
  go_wp2_with (fail)
  refine (wrap_calls _ _ _).mono ?_
  rintro e2 w2 ⟨rfl, rfl⟩
  go_wp2
  go_ret
  exact ⟨_, rfl, er_fault trivial (Nat.le_trans hB HB.out.size) (heap_new _ _), HB.out.alloc HB.out.size _⟩

theorem heap_at (w : World) (o : Obj) (k : Nat) (h : k = w.heap.size) : (w.alloc o).heap[k]? = some o := h ▸ heap_new w o
theorem len_sz (l : List L) : l.length ≤ sizeOf_ l := by
  induction l with
  | nil => simp
  | cons x l ih => simp [sizeOf_] at ih ⊢; omega
/-- What a read comes to. -/
def ReadPost (w : World) (B q : Nat) (a b e n : Int) (r : Er) (ls' : List L) (ev : Ending) (w' : World) : Prop :=
  (∃ u, ev = .returned u ∧ erK.M w' B (fun _ => True) r [u]) ∧ Below B w w' ∧ w.heap.size ≤ w'.heap.size ∧ (r = .none → ∃ v', Walk w' B q (a + 1 + n) b e v' ls')
/-- The read of a label that is there: what it comes to. -/
theorem read_there (q B : Nat) (A : Option Addr) (c : Nat) (xs : List Int) (a b e n : Int) (v : Value) (ls : List L) (w : World) (hw : Walk w B q a b e v ls) (h : (Kd.int .u8).C w A xs.length xs) (hx8 : Byts xs) (hc : xs.length ≤ c) (hcm : c ≤ 9223372036854775807) (hE : Env w) (hl : xs.length ≤ 140737488355328)
    (h0 : 0 ≤ a) (ha : a < xs.length) (hn : 1 ≤ n) (hn2 : n ≤ 63) (hB : B ≤ w.heap.size) (hs : a + 1 ≤ xs.length - n) (hz : sizeOf_ ls ≤ 255) :
    Calls Tryz.prog 77 #[.pointer (some ⟨q, 0, none⟩), .slice A xs.length c, .int .i64 n] w (ReadPost w B q a b e n (readE xs a n ls) (ls ++ [lab xs a n])) := by
  have hp : partE xs.length (a + 1) n = .none := partE_ok (by omega) (by omega) hs
  have hv : partV xs (a + 1) n = (xs.drop (a + 1).toNat).take n.toNat := partV_ok (by omega) (by omega) hs
  have H := Kp.mk (part_calls A c xs (a + 1) n w h hc hcm hE hl (by omega) (by omega) (by omega))
  rw [hp, hv] at H
  have hY : Byts ((xs.drop (a + 1).toNat).take n.toNat) := fun x hx => hx8 x (List.mem_of_mem_drop (List.mem_of_mem_take hx))
  have hyl : ((xs.drop (a + 1).toNat).take n.toNat).length ≤ 63 := by rw [List.length_take]; omega
  have hr : readE xs a n ls = if labelB (mkB (lab xs a n)) = false then .fault a 12 else if 255 < sizeOf_ (ls ++ [lab xs a n]) then .fault a 13 else .none := by
    unfold readE
    rw [if_neg (by omega)]
  have hlab : strOfNums (((xs.drop (a + 1).toNat).take n.toNat).map lowB) = mkB (lab xs a n) := low_str _
  have hll : (lab xs a n).length ≤ 63 := by unfold lab; rw [low_len]; exact hyl
  obtain ⟨ys, hys⟩ : ∃ ys, (xs.drop (a + 1).toNat).take n.toNat = ys := ⟨_, rfl⟩
  rw [hys] at H hY hyl hlab
  have HW := Kp.mk hw
  have HY := Kp.mk hY
  have hcell := blk_cell hw.blk 0
  obtain ⟨s, hse⟩ : ∃ s, lab xs a n = s := ⟨_, rfl⟩
  obtain ⟨r, hre⟩ : ∃ r, readE xs a n ls = r := ⟨_, rfl⟩
  rw [hse] at hlab hll hr ⊢
  rw [hre] at hr ⊢
  have HRE := Kp.mk hr
  have HLAB := Kp.mk hlab
  have HZ := Kp.mk hz
  have hsl : (mkB s).size ≤ 63 := hll
  have hqlt := heap_lt hw.blk
  clear hw h hE hp hv hr hys hY hx8 hse hlab hz hre
  go_enter Tryz.func77, Tryz.ntmps77
  go_wp2_with (fail)
  refine H.out.mono ?_
  rintro e1 w1 ⟨v1, v2, rfl, hm1, hm2, hb⟩
  obtain rfl := er_open_none (erK.K_of_M hm2)
  obtain ⟨A2, c2, rfl, hc2, hC2⟩ := slice_open (bytesK.K_of_M hm1)
  have HC2 := Kp.mk hC2
  have HW1 := Kp.mk (HW.out.grow hb)
  have HB := Kp.mk hb
  have hcell1 := blk_cell HW1.out.blk 0
  clear hm2 hm1 hC2 hb hcell
  go_wp2_with (fail)
  refine (is_nil 3 _).mono ?_
  rintro e2 w2 ⟨rfl, rfl⟩
  go_wp2_with (fail)
  refine (lower_calls A2 ys.length c2 ys _ HC2.out HY.out (by omega)).mono ?_
  rintro e2 w2 ⟨rfl, hb⟩
  rw [HLAB.out]
  have HW2 := Kp.mk (HW1.out.grow hb)
  have HB2 := Kp.mk (below_step HB.out hb)
  clear hcell1 hb
  go_wp2_with (fail)
  refine (label_calls _ _ (by omega)).mono ?_
  rintro e2 w3 ⟨rfl, hb⟩
  have HW3 := Kp.mk (HW2.out.grow hb)
  have HB3 := Kp.mk (below_step HB2.out hb)
  have hcell3 := blk_cell HW3.out.blk 0
  have hcell3d := blk_cell HW3.out.blk 3
  have hfz3 := blk_frozen HW3.out.blk 3
  clear hb HC2 HB2 HB
  by_cases hlb : labelB (mkB s) = false
  · obtain rfl : r = .fault a 12 := by rw [HRE.out, if_pos hlb]
    rw [hlb]
    go_wp2_with (fail)
    refine (wrap_calls _ _ _).mono ?_
    rintro e2 w4 ⟨rfl, rfl⟩
    go_wp2
    go_ret
    exact ⟨⟨_, rfl, er_fault trivial (Nat.le_trans hB HB3.out.size) (heap_new _ _)⟩, (HB3.out.mono hB).alloc (Nat.le_trans hB HB3.out.size) _, by simpa using Nat.le_succ_of_le HB3.out.size, fun h => by cases h⟩
  · have hlb' : labelB (mkB s) = true := by simpa using hlb
    have HRF : Kp (r = if 255 < sizeOf_ (ls ++ [s]) then .fault a 13 else .none) := ⟨by rw [HRE.out, if_neg hlb]⟩
    rw [hlb']
    clear hlb hlb'
    have hBw : B ≤ w3.heap.size := Nat.le_trans hB HB3.out.size
    have hls : ls.length < 256 := by
      have := len_sz ls
      have := HZ.out
      omega
    have HLS := Kp.mk hls
    clear hls
    go_wp2_with (at_builtin; refine app_textG (w0 := w3) rfl rfl _ _ rfl rfl HW3.out.row (Below.refl _ _) hBw (by have := HLS.out; simp only [List.length_map]; omega) ?_)
    intro v1 w4 HR4 HB4 hs4 HG4
    have hb4 := blk_grown HW3.out.blk HG4.out (Kd.R_ne HW3.out.row HW3.out.blk (by decide))
    have hcell4d := blk_cell hb4 3
    have hfz4d := blk_frozen hb4 3
    have hb5 := blk_put hb4 3 v1 (cs' := #[.int .i64 a, .int .i64 b, .int .i64 e, v1]) rfl
    have HR5 := Kp.mk (Kd.R_set HR4.out hb4 (by decide) 3 v1)
    have HB5 := Kp.mk hb5
    have hcell5 := blk_cell hb5 0
    have hcell5d := blk_cell hb5 3
    have hfz5 := blk_frozen hb5 0
    obtain ⟨A3, c3, hv1⟩ := Kd.R_slice HR4.out
    have hlen : (List.map mkB ls ++ [mkB s]).length = ls.length + 1 := by simp
    rw [hlen] at hv1
    subst hv1
    have hC5 := (R_C HR5.out).1
    have hmap : List.map mkB ls ++ [mkB s] = (ls ++ [s]).map mkB := by simp
    rw [hmap] at hC5
    have HC5 := Kp.mk hC5
    have HMAP := Kp.mk hmap
    have hszn : sizeOf_ (ls ++ [s]) ≤ 400 := by rw [sz_snoc]; have := HZ.out; omega
    have HSZN := Kp.mk hszn
    clear hb4 hb5 hC5 hlen hmap hszn
    go_wp2_with (fail)
    have hz5 : sizeOf_ (ls ++ [s]) ≤ 9223372036854775807 := by have := HSZN.out; omega
    have hsc := size_calls A3 _ c3 (ls ++ [s]) _ HC5.out hz5
    refine hsc.mono ?_
    rintro e2 w5 ⟨rfl, rfl⟩
    by_cases hbig : 255 < sizeOf_ (ls ++ [s])
    · obtain rfl : r = .fault a 13 := by rw [HRF.out, if_pos hbig]
      have bb : decide ((255 : Int) < ((sizeOf_ (ls ++ [s]) : Nat) : Int)) = true := by simp; omega
      go_wp2_with (fail)
      refine (wrap_calls _ _ _).mono ?_
      rintro e2 w6 ⟨rfl, rfl⟩
      go_wp2
      go_ret
      have hB4 := (HB3.out.mono hB).trans HB4.out
      have hle := HW.out.le
      exact ⟨⟨_, rfl, er_fault trivial (by simpa using hs4.out) (heap_at _ _ _ (by simp))⟩, (hB4.setCell hle _).alloc (by simpa using hs4.out) _, by have := hB4.size; simp; omega, fun h => by cases h⟩
    · obtain rfl : r = .none := by rw [HRF.out, if_neg hbig]
      have bb : decide ((255 : Int) < ((sizeOf_ (ls ++ [s]) : Nat) : Int)) = false := by simp; omega
      clear hbig
      go_wp2
      go_ret
      have hB4 := (HB3.out.mono hB).trans HB4.out
      have hle := HW.out.le
      have hrow := Kd.R_set HR5.out HB5.out (by decide) 0 (.int .i64 (a + (1 + n)))
      rw [HMAP.out] at hrow
      refine ⟨⟨_, rfl, er_none _ _ _⟩, (hB4.setCell hle _).setCell hle _, by have := hB4.size; simp; omega, fun _ => ⟨_, hle, blk_put HB5.out 0 _ ?_, hrow⟩⟩
      rw [Int.add_assoc]
      rfl

/-- leap: where a pointer leads; why nowhere. -/
def leapTo (xs : List Int) (a : Int) : Int := be ((xs.drop a.toNat).take 2) % 16384
def leapE (xs : List Int) (a b : Int) : Er := if (xs.length : Int) - 2 < a then .fault a 3 else if b ≤ leapTo xs a then .fault a 14 else .none
def LeapPost (w : World) (B q : Nat) (t e : Int) (ls : List L) (r : Er) (ev : Ending) (w' : World) : Prop :=
  (∃ u, ev = .returned u ∧ erK.M w' B (fun _ => True) r [u]) ∧ Below B w w' ∧ w.heap.size ≤ w'.heap.size ∧ (r = .none → ∃ v', Walk w' B q t t e v' ls)
theorem and_place (v : Int) (h0 : 0 ≤ v) (h1 : v < 65536) : bits .and .i64 v 16383 = v % 16384 := by
  obtain ⟨n, rfl⟩ := Int.eq_ofNat_of_zero_le h0
  have h := bits_mask .i64 16 (by decide) (fun n h0 h1 => IntWalk.i64_in n (by omega)) 14 (by decide) (n : Int) (by omega) (by omega)
  simpa using h
theorem leap_calls (q B : Nat) (A : Option Addr) (c : Nat) (xs : List Int) (a b e e' : Int) (v : Value) (ls : List L) (w : World) (hw : Walk w B q a b e v ls) (h : (Kd.int .u8).C w A xs.length xs) (hx8 : Byts xs) (hc : xs.length ≤ c) (hcm : c ≤ 9223372036854775807) (hE : Env w) (hl : xs.length ≤ 140737488355328)
    (h0 : 0 ≤ a) (ha : a < xs.length) (hB : B ≤ w.heap.size) (he : e' = if e < 0 then a + 2 else e) :
    Calls Tryz.prog 78 #[.pointer (some ⟨q, 0, none⟩), .slice A xs.length c] w (LeapPost w B q (leapTo xs a) e' ls (leapE xs a b)) := by
  have H := Kp.mk (u16_calls A c xs a w h hx8 hc hcm hE hl (by omega) (by omega))
  have hur := u16_range xs a hx8
  have HW := Kp.mk hw
  have hcell := blk_cell hw.blk 0
  obtain ⟨r, hre⟩ : ∃ r, leapE xs a b = r := ⟨_, rfl⟩
  rw [hre]
  have HRE := Kp.mk hre
  have HEE := Kp.mk he
  clear hw h hE hx8 hre he
  by_cases hs : (xs.length : Int) - 2 < a
  · have hp : partE xs.length a 2 = .fault a 3 := partE_short h0 (by omega) hs
    rw [hp] at H
    obtain rfl : r = .fault a 3 := by rw [← HRE.out]; unfold leapE; rw [if_pos hs]
    clear hp
    go_enter Tryz.func78, Tryz.ntmps78
    go_wp2_with (fail)
    refine H.out.mono ?_
    rintro e1 w1 ⟨v1, v2, rfl, hm1, hm2, hb⟩
    obtain rfl : v1 = .int .i64 (numV xs a 2) := List.singleton_inj.1 hm1
    have HM := Kp.mk hm2
    have HB := Kp.mk hb
    clear hm1 hm2 hb
    go_wp2_with (fail)
    refine (is_calls _ _ 3 _ (erK.K_of_M HM.out) (by decide) true rfl (by intro h; cases h)).mono ?_
    rintro e2 w2 ⟨rfl, rfl⟩
    go_wp2
    go_ret
    exact ⟨⟨_, rfl, erK.M_lower hB HM.out⟩, HB.out.mono hB, HB.out.size, fun h => by cases h⟩
  · have hp : partE xs.length a 2 = .none := partE_ok h0 (by omega) (by omega)
    have hnv : numV xs a 2 = be ((xs.drop a.toNat).take 2) := by
      unfold numV
      rw [askE_ok h0 (by omega) (by omega)]
      rfl
    have hto : leapTo xs a = be ((xs.drop a.toNat).take 2) % 16384 := rfl
    rw [← hnv] at hto
    rw [hp] at H
    have hRE2 : r = if b ≤ leapTo xs a then .fault a 14 else .none := by rw [← HRE.out]; unfold leapE; rw [if_neg hs]
    have HR2 := Kp.mk hRE2
    have hand := and_place (numV xs a 2) hur.1 (by omega)
    rw [← hto] at hand
    have htr : 0 ≤ leapTo xs a ∧ leapTo xs a < 16384 := by rw [hto]; omega
    obtain ⟨t, ht⟩ : ∃ t, leapTo xs a = t := ⟨_, rfl⟩
    rw [ht] at hand htr HR2 ⊢
    clear hp hnv hto hRE2 ht
    go_enter Tryz.func78, Tryz.ntmps78
    go_wp2_with (fail)
    refine H.out.mono ?_
    rintro e1 w1 ⟨v1, v2, rfl, hm1, hm2, hb⟩
    obtain rfl : v1 = .int .i64 (numV xs a 2) := List.singleton_inj.1 hm1
    obtain rfl := er_open_none (erK.K_of_M hm2)
    have HW1 := Kp.mk (HW.out.grow hb)
    have HB := Kp.mk hb
    have hc0 := blk_cell HW1.out.blk 0
    have hc1 := blk_cell HW1.out.blk 1
    have hc2 := blk_cell HW1.out.blk 2
    have hf0 := blk_frozen HW1.out.blk 0
    have hf1 := blk_frozen HW1.out.blk 1
    have hf2 := blk_frozen HW1.out.blk 2
    clear hm1 hm2 hb hcell
    go_wp2_with (fail)
    refine (is_nil 3 _).mono ?_
    rintro e2 w2 ⟨rfl, rfl⟩
    by_cases hb : b ≤ t
    · obtain rfl : r = .fault a 14 := by rw [HR2.out, if_pos hb]
      have bb : decide (b ≤ t) = true := by simpa using hb
      go_wp2_with (fail)
      refine (wrap_calls _ _ _).mono ?_
      rintro e2 w4 ⟨rfl, rfl⟩
      go_wp2
      go_ret
      exact ⟨⟨_, rfl, er_fault trivial (Nat.le_trans hB HB.out.size) (heap_new _ _)⟩, (HB.out.mono hB).alloc (Nat.le_trans hB HB.out.size) _, by have := HB.out.size; simp; omega, fun h => by cases h⟩
    · obtain rfl : r = .none := by rw [HR2.out, if_neg hb]
      have bb : decide (b ≤ t) = false := by simpa using hb
      have hle := HW.out.le
      have hbk := HW1.out.blk
      by_cases hneg : e < 0
      · have bn : decide (e < 0) = true := by simpa using hneg
        obtain rfl : e' = a + 2 := by rw [HEE.out, if_pos hneg]
        have hk1 := blk_put hbk 2 (.int .i64 (a + 2)) (cs' := #[.int .i64 a, .int .i64 b, .int .i64 (a + 2), v]) rfl
        have hk2 := blk_put hk1 0 (.int .i64 t) (cs' := #[.int .i64 t, .int .i64 b, .int .i64 (a + 2), v]) rfl
        have hk3 := blk_put hk2 1 (.int .i64 t) (cs' := #[.int .i64 t, .int .i64 t, .int .i64 (a + 2), v]) rfl
        have HK3 := Kp.mk hk3
        have HRW := Kp.mk (Kd.R_set (Kd.R_set (Kd.R_set HW1.out.row hbk (by decide) 2 (.int .i64 (a + 2))) hk1 (by decide) 0 (.int .i64 t)) hk2 (by decide) 1 (.int .i64 t))
        have g0 := blk_cell hk1 0
        have g1 := blk_frozen hk1 0
        have g2 := blk_cell hk2 1
        have g3 := blk_frozen hk2 1
        clear hk1 hk2 hk3 hbk hneg hb
        go_wp2
        go_ret
        exact ⟨⟨_, rfl, er_none _ _ _⟩, (((HB.out.mono hB).setCell hle _).setCell hle _).setCell hle _, by have := HB.out.size; simp; omega, fun _ => ⟨_, hle, HK3.out, HRW.out⟩⟩
      · have bn : decide (e < 0) = false := by simpa using hneg
        obtain rfl : e' = e := by rw [HEE.out, if_neg hneg]
        have hk2 := blk_put hbk 0 (.int .i64 t) (cs' := #[.int .i64 t, .int .i64 b, .int .i64 e', v]) rfl
        have hk3 := blk_put hk2 1 (.int .i64 t) (cs' := #[.int .i64 t, .int .i64 t, .int .i64 e', v]) rfl
        have HK3 := Kp.mk hk3
        have HRW := Kp.mk (Kd.R_set (Kd.R_set HW1.out.row hbk (by decide) 0 (.int .i64 t)) hk2 (by decide) 1 (.int .i64 t))
        have g2 := blk_cell hk2 1
        have g3 := blk_frozen hk2 1
        clear hk2 hk3 hbk hneg hb
        go_wp2
        go_ret
        exact ⟨⟨_, rfl, er_none _ _ _⟩, ((HB.out.mono hB).setCell hle _).setCell hle _, by have := HB.out.size; simp; omega, fun _ => ⟨_, hle, HK3.out, HRW.out⟩⟩
end Go.Proofs.YtlkneoednkhleaaGreatDoor
