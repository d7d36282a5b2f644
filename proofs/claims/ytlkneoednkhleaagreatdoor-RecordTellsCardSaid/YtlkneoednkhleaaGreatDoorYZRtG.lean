/-
  The document's answers for records: what a record bears (data), by its contract.
-/
import Derived.Test.YtlkneoednkhleaaGreatDoorYZRtF
import Derived.Test.YtlkneoednkhleaaGreatDoorYGs
namespace Go.Proofs.YtlkneoednkhleaaGreatDoor
open Go.RowKit Go.Proofs.YtlkneoednkhleaaGreatDoorW.PrintWords Go.Proofs.YtlkneoednkhleaaGreatDoorW.PrintLast Go.Proofs.YtlkneoednkhleaaGreatDoor.P
set_option linter.unusedVariables false
set_option linter.unusedSimpArgs false
set_option maxRecDepth 100000
set_option maxHeartbeats 2000000

section
variable {v : Value} {P : Program} {ops : Array Oper} {Q : Exit → Act → World → Prop} {md : Region.Mode} {S : World → Prop} {ds : List Nat}
/-- A struct is loaded whole, in a region that draws its order. -/
theorem take_blk {i : Nat} {N : Option Tmp} {oi : Oper} {fuel : Nat} {l : Array Bool} {a : Act} {w : World} (l' : Array Bool) (hi : ops[i]? = some oi) (hN : oi.dst = N) (hc : takeB md ops ds l l' i = true)
    (hQ : ∀ c a w, Q (.panic c) (a.put oi.dst v) w → Q (.panic c) a w) (hw : Region.wanted oi (yielded ops a.tmps) = true) (ty : TypeId) (x : Operand) (ho : oi.op = .load ty x) (g : Nat) (hx : a.eval x = .pointer (some ⟨g, 0, none⟩)) (cs : Array Value) (hv : v = .agg cs) {t : TypeId} (hSg : ∀ w, S w → w.heap[g]? = some (.cells cs t (0, 0)))
    {d : TypeDesc} (hu : P.underlying ty = some d) (hd : d.isRow = true) (hsz : (P.info? ty).map (·.size) = some cs.size) (hS : S w) {a' : Act} (ha : a.put N (.agg cs) = a')
    (h : wpAnyLast P md ops Q S ds fuel l' a' w) : wpAnyLast P md ops Q S ds (fuel + 1) l a w := by
  subst hv
  have hy : YieldsIf P ops S oi (.agg cs) a := by
    have := yieldsIf_load_mid (ops := ops) (S := S) hw ty x ho g 0 hx cs.toList d (fun w hw' j v hj => by
      rw [Nat.zero_add, blk_cell (hSg w hw') j]
      simpa using hj) hu hd (by simpa using hsz)
    simpa using this
  exact take_ l' hi hN hc hQ hy hS ha h
/-- A struct is stored whole into a block, at a step of such a region. -/
theorem st_step {oi : Oper} {a : Act} {w w0 : World} {K : Act → World → Prop} {base : Nat} (hw : Region.wanted oi (yielded ops a.tmps) = true) (ty : TypeId) (x y : Operand) (ho : oi.op = .store ty x y) (hd : oi.dst = none) (g : Nat) (cells : Array Value) (hx : a.eval x = .pointer (some ⟨g, 0, none⟩)) (hy : a.eval y = .agg cells)
    {t : TypeId} {old : Array Value} (hg : Kp (w.heap[g]? = some (.cells old t (0, 0)))) (hi : (P.info? ty).map (·.size) = some cells.size) (hold : old.size = cells.size) (h1 : cells.all (·.oneCell') = true) (HB : Kp (Below base w0 w)) (hbg : base ≤ g)
    (h : ∀ w', Kp (w'.heap[g]? = some (.cells cells t (0, 0))) → Kp (∀ k, k ≠ g → w'.heap[k]? = w.heap[k]?) → Kp (Below base w0 w') → w'.heap.size = w.heap.size → K a w') :
    if Region.wanted oi (yielded ops a.tmps) = true then Oper.wp P oi a w K Q else K (a.put none undef) w := by
  rw [if_pos hw]
  refine wp_store_row ty x y ho g cells hx hy t old hg.out hi hold h1 ?_
  rw [hd]
  exact h (w.setRow g cells) ⟨setRow_heap w g old cells t (0, 0) hg.out⟩ ⟨fun k hk => setRow_other w g k cells hk⟩
    ⟨⟨HB.out.os, HB.out.tape, HB.out.output, by rw [size_setRow]; exact HB.out.size, fun k hk => (setRow_other w g k cells (by omega)).trans (HB.out.block k hk)⟩⟩ (size_setRow w g cells)
end
/-- A record, and an error as the document tells it. -/
def DataPost (r : Rec) (er : Er) (w : World) (e : Ending) (w' : World) : Prop :=
  ∃ dv, e = .returned (.tuple #[.agg (recA r dv), failV er]) ∧ (Kd.int .u8).R 5 w' w.heap.size (fun _ => True) dv r.data ∧ Below w.heap.size w w'
/-- The bytes that are copied, of an address. -/
def bK (xs : List Int) (a k : Nat) : Nat → Int := fun i => if i < k then xs.getD (a + i) 0 else 0
theorem bK_step (xs : List Int) (a k i : Nat) : bK xs a (k + 1) i = if i = k then xs.getD (a + k) 0 else bK xs a k i := by
  unfold bK
  by_cases h : i = k
  · rw [if_pos h, if_pos (by omega), h]
  · rw [if_neg h]
    by_cases h2 : i < k
    · rw [if_pos h2, if_pos (by omega)]
    · rw [if_neg h2, if_neg (by omega)]
theorem rec_cell (x0 x1 x2 x3 x4 y z : Value) (f : Nat → Int) : ∀ k, k < 16 → (#[x0, x1, x2, x3, x4, .int .u8 (f 0), .int .u8 (f 1), .int .u8 (f 2), .int .u8 (f 3), .int .u8 (f 4), .int .u8 (f 5), .int .u8 (f 6), .int .u8 (f 7), .int .u8 (f 8), .int .u8 (f 9), .int .u8 (f 10), .int .u8 (f 11), .int .u8 (f 12), .int .u8 (f 13), .int .u8 (f 14), .int .u8 (f 15), y, z] : Array Value)[5 + k]? = some (.int .u8 (f k)) := by
  intro k hk
  match k, hk with
  | 0, _ => rfl
  | 1, _ => rfl
  | 2, _ => rfl
  | 3, _ => rfl
  | 4, _ => rfl
  | 5, _ => rfl
  | 6, _ => rfl
  | 7, _ => rfl
  | 8, _ => rfl
  | 9, _ => rfl
  | 10, _ => rfl
  | 11, _ => rfl
  | 12, _ => rfl
  | 13, _ => rfl
  | 14, _ => rfl
  | 15, _ => rfl
  | n + 16, h => exact absurd h (by omega)
theorem rec_put (x0 x1 x2 x3 x4 y z : Value) (f g : Nat → Int) (x : Int) : ∀ k, k < 16 → (∀ i, g i = if i = k then x else f i) → (#[x0, x1, x2, x3, x4, .int .u8 (f 0), .int .u8 (f 1), .int .u8 (f 2), .int .u8 (f 3), .int .u8 (f 4), .int .u8 (f 5), .int .u8 (f 6), .int .u8 (f 7), .int .u8 (f 8), .int .u8 (f 9), .int .u8 (f 10), .int .u8 (f 11), .int .u8 (f 12), .int .u8 (f 13), .int .u8 (f 14), .int .u8 (f 15), y, z] : Array Value).setIfInBounds (5 + k) (.int .u8 x) = #[x0, x1, x2, x3, x4, .int .u8 (g 0), .int .u8 (g 1), .int .u8 (g 2), .int .u8 (g 3), .int .u8 (g 4), .int .u8 (g 5), .int .u8 (g 6), .int .u8 (g 7), .int .u8 (g 8), .int .u8 (g 9), .int .u8 (g 10), .int .u8 (g 11), .int .u8 (g 12), .int .u8 (g 13), .int .u8 (g 14), .int .u8 (g 15), y, z] := by
  intro k hk hg
  rw [hg 0, hg 1, hg 2, hg 3, hg 4, hg 5, hg 6, hg 7, hg 8, hg 9, hg 10, hg 11, hg 12, hg 13, hg 14, hg 15]
  clear hg
  match k, hk with
  | 0, _ => rfl
  | 1, _ => rfl
  | 2, _ => rfl
  | 3, _ => rfl
  | 4, _ => rfl
  | 5, _ => rfl
  | 6, _ => rfl
  | 7, _ => rfl
  | 8, _ => rfl
  | 9, _ => rfl
  | 10, _ => rfl
  | 11, _ => rfl
  | 12, _ => rfl
  | 13, _ => rfl
  | 14, _ => rfl
  | 15, _ => rfl
  | n + 16, h => exact absurd h (by omega)
theorem rread_calls (A : Option Addr) (c : Nat) (xs : List Int) (a : Int) (w : World) (nm : L) (en : Int) (er : Er) (h : (Kd.int .u8).C w A xs.length xs) (hc : xs.length ≤ c) (hx : Byts xs) (hl : xs.length ≤ 1000000) (hr : readN xs a = (nm, en, er)) :
    Calls Tryz.prog 42 #[.slice A xs.length c, .int .i64 a] w fun e w' => e = .returned (.tuple #[.string (mkB nm), .int .i64 en, failV er]) ∧ Below w.heap.size w w' := by
  have := stockaderef12_Read.calls _ A c xs a _ _ _ _ _ w h hc (ref_readN xs hx hl a nm en er hr)
  rw [failV_T]
  exact this
theorem rdata_o (A : Option Addr) (c : Nat) (xs : List Int) (qn : L) (qt qc tl : Int) (a n : Int) (w : World) (h : (Kd.int .u8).C w A xs.length xs) (hc : xs.length ≤ c) (hx : Byts xs) (hl : xs.length ≤ 1000000) (h0 : 0 ≤ n) (h2 : 2 ≤ a) (han : a + n ≤ xs.length) (h1 : qt ≠ 1) (h28 : qt ≠ 28) (h5 : qt ≠ 5) :
    Calls Tryz.prog 47 #[.slice A xs.length c, .agg #[.string (mkB qn), .int .i64 qt, .int .i64 qc, .int .u32 tl, .bool false, .int .u8 0, .int .u8 0, .int .u8 0, .int .u8 0, .int .u8 0, .int .u8 0, .int .u8 0, .int .u8 0, .int .u8 0, .int .u8 0, .int .u8 0, .int .u8 0, .int .u8 0, .int .u8 0, .int .u8 0, .int .u8 0, .string ⟨#[]⟩, .slice none 0 0], .int .i64 a, .int .i64 n] w (DataPost (⟨qn, qt, qc, tl, Ad.zero, [], (xs.drop a.toNat).take n.toNat⟩) (.none) w) := by
  have HC := Kp.mk h
  have HX := Kp.mk hx
  have HB1 := Kp.mk ((Below.refl w.heap.size w).alloc (Nat.le_refl _) (.cells #[.string (mkB qn), .int .i64 qt, .int .i64 qc, .int .u32 tl, .bool false, .int .u8 0, .int .u8 0, .int .u8 0, .int .u8 0, .int .u8 0, .int .u8 0, .int .u8 0, .int .u8 0, .int .u8 0, .int .u8 0, .int .u8 0, .int .u8 0, .int .u8 0, .int .u8 0, .int .u8 0, .int .u8 0, .string ⟨#[]⟩, .slice none 0 0] 28))
  have HB2 := Kp.mk (HB1.out.alloc HB1.out.size (.cells #[.string ⟨#[]⟩, .int .i64 0, .int .i64 0, .int .u32 0, .bool false, .int .u8 0, .int .u8 0, .int .u8 0, .int .u8 0, .int .u8 0, .int .u8 0, .int .u8 0, .int .u8 0, .int .u8 0, .int .u8 0, .int .u8 0, .int .u8 0, .int .u8 0, .int .u8 0, .int .u8 0, .int .u8 0, .string ⟨#[]⟩, .slice none 0 0] 28))
  have HB3 := Kp.mk (HB2.out.alloc HB2.out.size (.cells #[.int .i64 0, .int .i64 0, .bool false] 38))
  have e1 : w.heap.size + 1 = (w.alloc (.cells #[.string (mkB qn), .int .i64 qt, .int .i64 qc, .int .u32 tl, .bool false, .int .u8 0, .int .u8 0, .int .u8 0, .int .u8 0, .int .u8 0, .int .u8 0, .int .u8 0, .int .u8 0, .int .u8 0, .int .u8 0, .int .u8 0, .int .u8 0, .int .u8 0, .int .u8 0, .int .u8 0, .int .u8 0, .string ⟨#[]⟩, .slice none 0 0] 28)).heap.size := by simp
  have e2 : w.heap.size + 2 = ((w.alloc (.cells #[.string (mkB qn), .int .i64 qt, .int .i64 qc, .int .u32 tl, .bool false, .int .u8 0, .int .u8 0, .int .u8 0, .int .u8 0, .int .u8 0, .int .u8 0, .int .u8 0, .int .u8 0, .int .u8 0, .int .u8 0, .int .u8 0, .int .u8 0, .int .u8 0, .int .u8 0, .int .u8 0, .int .u8 0, .string ⟨#[]⟩, .slice none 0 0] 28)).alloc (.cells #[.string ⟨#[]⟩, .int .i64 0, .int .i64 0, .int .u32 0, .bool false, .int .u8 0, .int .u8 0, .int .u8 0, .int .u8 0, .int .u8 0, .int .u8 0, .int .u8 0, .int .u8 0, .int .u8 0, .int .u8 0, .int .u8 0, .int .u8 0, .int .u8 0, .int .u8 0, .int .u8 0, .int .u8 0, .string ⟨#[]⟩, .slice none 0 0] 28)).heap.size := by simp
  have g1 := heap_new w (.cells #[.string (mkB qn), .int .i64 qt, .int .i64 qc, .int .u32 tl, .bool false, .int .u8 0, .int .u8 0, .int .u8 0, .int .u8 0, .int .u8 0, .int .u8 0, .int .u8 0, .int .u8 0, .int .u8 0, .int .u8 0, .int .u8 0, .int .u8 0, .int .u8 0, .int .u8 0, .int .u8 0, .int .u8 0, .string ⟨#[]⟩, .slice none 0 0] 28)
  have g2 := heap_new (w.alloc (.cells #[.string (mkB qn), .int .i64 qt, .int .i64 qc, .int .u32 tl, .bool false, .int .u8 0, .int .u8 0, .int .u8 0, .int .u8 0, .int .u8 0, .int .u8 0, .int .u8 0, .int .u8 0, .int .u8 0, .int .u8 0, .int .u8 0, .int .u8 0, .int .u8 0, .int .u8 0, .int .u8 0, .int .u8 0, .string ⟨#[]⟩, .slice none 0 0] 28)) (.cells #[.string ⟨#[]⟩, .int .i64 0, .int .i64 0, .int .u32 0, .bool false, .int .u8 0, .int .u8 0, .int .u8 0, .int .u8 0, .int .u8 0, .int .u8 0, .int .u8 0, .int .u8 0, .int .u8 0, .int .u8 0, .int .u8 0, .int .u8 0, .int .u8 0, .int .u8 0, .int .u8 0, .int .u8 0, .string ⟨#[]⟩, .slice none 0 0] 28)
  have g3 := heap_new ((w.alloc (.cells #[.string (mkB qn), .int .i64 qt, .int .i64 qc, .int .u32 tl, .bool false, .int .u8 0, .int .u8 0, .int .u8 0, .int .u8 0, .int .u8 0, .int .u8 0, .int .u8 0, .int .u8 0, .int .u8 0, .int .u8 0, .int .u8 0, .int .u8 0, .int .u8 0, .int .u8 0, .int .u8 0, .int .u8 0, .string ⟨#[]⟩, .slice none 0 0] 28)).alloc (.cells #[.string ⟨#[]⟩, .int .i64 0, .int .i64 0, .int .u32 0, .bool false, .int .u8 0, .int .u8 0, .int .u8 0, .int .u8 0, .int .u8 0, .int .u8 0, .int .u8 0, .int .u8 0, .int .u8 0, .int .u8 0, .int .u8 0, .int .u8 0, .int .u8 0, .int .u8 0, .int .u8 0, .int .u8 0, .string ⟨#[]⟩, .slice none 0 0] 28)) (.cells #[.int .i64 0, .int .i64 0, .bool false] 38)
  have k2 := (((Below.refl _ _).alloc (Nat.le_refl _) (.cells #[.string ⟨#[]⟩, .int .i64 0, .int .i64 0, .int .u32 0, .bool false, .int .u8 0, .int .u8 0, .int .u8 0, .int .u8 0, .int .u8 0, .int .u8 0, .int .u8 0, .int .u8 0, .int .u8 0, .int .u8 0, .int .u8 0, .int .u8 0, .int .u8 0, .int .u8 0, .int .u8 0, .int .u8 0, .string ⟨#[]⟩, .slice none 0 0] 28)).block _ (heap_lt g1)).trans g1
  have HG5 := Kp.mk ((((Below.refl _ _).alloc (Nat.le_refl _) (.cells #[.int .i64 0, .int .i64 0, .bool false] 38)).block _ (heap_lt k2)).trans k2)
  have k3 := (((Below.refl _ _).alloc (Nat.le_refl _) (.cells #[.int .i64 0, .int .i64 0, .bool false] 38)).block _ (heap_lt g2)).trans g2
  rw [← e1] at k3
  rw [← e2] at g3
  have HG8 := Kp.mk k3
  have HG9 := Kp.mk g3
  clear g1 g2 g3 k2 k3 e1 e2 HB1 HB2 h hx
  have w2 : wrap64 (a - 2) = a - 2 := by unfold wrap64; omega
  go_enter Tryz.func47, Tryz.ntmps47
  go_wp2_with (fail)
  refine (stockadehelp_At.calls 7 (a - 2) 7 (a - 2) true _ rfl).mono ?_
  rintro e w4 ⟨rfl, hb⟩
  have HS4 := Kp.mk (below_step HB3.out hb)
  have HG5a := Kp.mk ((hb.block _ (heap_lt HG5.out)).trans HG5.out)
  have HG8a := Kp.mk ((hb.block _ (heap_lt HG8.out)).trans HG8.out)
  have HG9a := Kp.mk ((hb.block _ (heap_lt HG9.out)).trans HG9.out)
  have HS4a := Kp.mk (HS4.out.alloc HS4.out.size (.cells #[.int .i64 0, .int .i64 0, .bool false] 38))
  have hz4 := HS4.out.size
  have hz9 := heap_lt HG9a.out
  clear hb HG5 HG8 HG9
  go_wp2_with (with_reducible refine st_blk (w0 := w) (base := w.heap.size) rfl 38 (.tmp 10) (.tmp 17) rfl rfl w4.heap.size _ rfl rfl ⟨heap_new _ _⟩ (by kernel_rfl) (by kernel_rfl) (by kernel_rfl) HS4a hz4 ?_)
  intro w5 HE5 HO5 HS5 hs5
  have HN5 := Kp.mk (stored_new HS4.out HS5.out hs5 HO5.out)
  have HG5b := Kp.mk ((HN5.out.block _ (heap_lt HG5a.out)).trans HG5a.out)
  have HG8b := Kp.mk ((HN5.out.block _ (heap_lt HG8a.out)).trans HG8a.out)
  have HG9b := Kp.mk ((HN5.out.block _ (heap_lt HG9a.out)).trans HG9a.out)
  have HC5 := Kp.mk (Kd.C_below HC.out HS5.out)
  clear HG5a HG8a HG9a hs5 HO5
  have d1 := blk_cell HG5b.out 1
  have b1 : (qt == 1) = false := by simpa using h1
  have b28 : (qt == 28) = false := by simpa using h28
  have b5 : (qt == 5) = false := by simpa using h5
  have wn : wrap64 (a + n) = a + n := by unfold wrap64; omega
  obtain ⟨AX, hAX⟩ : ∃ AX, (if c = a.toNat then A else A.map (·.add (a.toNat * 1))) = AX := ⟨_, rfl⟩
  obtain ⟨ys, hys⟩ : ∃ ys, (xs.drop a.toNat).take n.toNat = ys := ⟨_, rfl⟩
  have hyl : (a + n).toNat - a.toNat = ys.length := by rw [← hys, List.length_take, List.length_drop]; omega
  have hmid : (Kd.int .u8).C w5 AX ys.length ys := by
    have hm := Kd.C_mid (c := c) (lo := a.toNat) (hi := (a + n).toNat) HC5.out (by omega) (by omega) hc
    have e1 : (xs.take (a + n).toNat).drop a.toNat = ys := by rw [← hys, List.drop_take]; congr 1; omega
    rw [e1] at hm
    rw [← hAX]
    exact hm
  have hcut := cut_mid (P := Tryz.prog) 22 5 .i64 .i64 Tryz.underlying22 (i := (Tryz.prog.info? 5).get (by kernel_rfl)) (by kernel_rfl) 1 (by kernel_rfl) A xs.length c a (a + n) (by omega) (by omega) (by omega) hc
  rw [hAX, hyl] at hcut
  have HM := Kp.mk hmid
  have hyl2 : ys.length ≤ 1000000 := by omega
  have HYL := Kp.mk hyl2
  have HYS := Kp.mk hys
  clear hmid hyl hyl2 hys hAX h1 h28 h5
  go_wp2_with (at_builtin; (with_reducible refine gate_builtin (b := .append) (xs := #[.const (.slice none 0 0), .tmp 25]) rfl ?_); go_must (refine app_bytes (w0 := w5) (base := w5.heap.size) (s := .const (.slice none 0 0)) (x := .tmp 25) (v := .slice none 0 0) rfl rfl [] ys AX ys.length (c - a.toNat) rfl rfl (Kd.R_nil _ _ _ _ _) HM.out (Below.refl _ _) (Nat.le_refl _) (by have := HYL.out; show 0 + ys.length ≤ _; omega) ?_))
  intro v6 w6 HR6 HB6 hs6

  obtain ⟨A6, c6, rfl⟩ := Kd.R_slice HR6.out
  have HG5c := Kp.mk ((HB6.out.block _ (heap_lt HG5b.out)).trans HG5b.out)
  have HG8c := Kp.mk ((HB6.out.block _ (heap_lt HG8b.out)).trans HG8b.out)
  have HG9c := Kp.mk ((HB6.out.block _ (heap_lt HG9b.out)).trans HG9b.out)
  have HS6 := Kp.mk (below_step HS5.out HB6.out)
  have hz5 := heap_lt HG9b.out
  clear d1 hcut
  have cp := blk_cell HG5c.out 22
  have yp := blk_frozen HG5c.out 22
  have HP5p := Kp.mk (blk_put HG5c.out 22 (.slice A6 ys.length c6) (cs' := #[.string (mkB qn), .int .i64 qt, .int .i64 qc, .int .u32 tl, .bool false, .int .u8 0, .int .u8 0, .int .u8 0, .int .u8 0, .int .u8 0, .int .u8 0, .int .u8 0, .int .u8 0, .int .u8 0, .int .u8 0, .int .u8 0, .int .u8 0, .int .u8 0, .int .u8 0, .int .u8 0, .int .u8 0, .string ⟨#[]⟩, .slice A6 ys.length c6]) rfl)
  have HP8p := Kp.mk ((Below.heap_setCell w6 ⟨w.heap.size, 22, none⟩ (.slice A6 ys.length c6) (w.heap.size + 1) (by simp)).trans HG8c.out)
  have HP9p := Kp.mk ((Below.heap_setCell w6 ⟨w.heap.size, 22, none⟩ (.slice A6 ys.length c6) (w.heap.size + 2) (by simp)).trans HG9c.out)
  have HPSp := Kp.mk (HS6.out.setCell (p := ⟨w.heap.size, 22, none⟩) (Nat.le_refl _) (.slice A6 ys.length c6))
  go_wp2_with (first | (with_reducible refine ld_blk rfl 28 (.tmp 5) rfl w.heap.size rfl HP5p Tryz.underlying28 rfl (by kernel_rfl) ?_) | (with_reducible refine st_blk (w0 := w) (base := w.heap.size) rfl 28 (.tmp 8) (.tmp 82) rfl rfl (w.heap.size + 1) _ rfl rfl HP8p (by kernel_rfl) (by kernel_rfl) (by kernel_rfl) HPSp (Nat.le_succ _) ?_))
  intro w20 H20 HO20 HS20 hs20
  have HG9z := Kp.mk ((HO20.out _ (by omega)).trans HP9p.out)
  go_wp2_with (with_reducible refine st_blk (w0 := w) (base := w.heap.size) rfl 38 (.tmp 9) (.tmp 83) rfl rfl (w.heap.size + 2) _ rfl rfl HG9z (by kernel_rfl) (by kernel_rfl) (by kernel_rfl) HS20 (by omega) ?_)
  intro w21 H21 HO21 HS21 hs21
  have H20b := Kp.mk ((HO21.out _ (by omega)).trans H20.out)
  go_wp2
  refine bodyPost_ret (results_cc rfl _ _ (w.heap.size + 1) (w.heap.size + 2) 28 38 _ _ (0, 0) (0, 0) _ _ rfl H20b.out Tryz.underlying28 rfl (by kernel_rfl) rfl H21.out Tryz.underlying38 rfl (by kernel_rfl)) rfl ?_
  have hfin := Kd.R_lower (R_stored (R_stored (Kd.R_set HR6.out HG5c.out (by decide) 22 (.slice A6 ys.length c6)) (by omega) HO20.out) (by omega) HO21.out) HS5.out.size
  exact ⟨_, rfl, by rw [← HYS.out] at hfin ⊢; exact hfin, HS21.out⟩
theorem rdata_5a (A : Option Addr) (c : Nat) (xs : List Int) (qn : L) (qc tl : Int) (a n : Int) (w : World) (h : (Kd.int .u8).C w A xs.length xs) (hc : xs.length ≤ c) (hx : Byts xs) (hl : xs.length ≤ 1000000) (h0 : 0 ≤ n) (h2 : 2 ≤ a) (han : a + n ≤ xs.length) (nm : L) (en : Int) (er : Er) (hr : readN xs a = (nm, en, er)) (her : er.num ≠ 0) :
    Calls Tryz.prog 47 #[.slice A xs.length c, .agg #[.string (mkB qn), .int .i64 5, .int .i64 qc, .int .u32 tl, .bool false, .int .u8 0, .int .u8 0, .int .u8 0, .int .u8 0, .int .u8 0, .int .u8 0, .int .u8 0, .int .u8 0, .int .u8 0, .int .u8 0, .int .u8 0, .int .u8 0, .int .u8 0, .int .u8 0, .int .u8 0, .int .u8 0, .string ⟨#[]⟩, .slice none 0 0], .int .i64 a, .int .i64 n] w (DataPost (Rec.zero) (er) w) := by
  have HC := Kp.mk h
  have HX := Kp.mk hx
  have HB1 := Kp.mk ((Below.refl w.heap.size w).alloc (Nat.le_refl _) (.cells #[.string (mkB qn), .int .i64 5, .int .i64 qc, .int .u32 tl, .bool false, .int .u8 0, .int .u8 0, .int .u8 0, .int .u8 0, .int .u8 0, .int .u8 0, .int .u8 0, .int .u8 0, .int .u8 0, .int .u8 0, .int .u8 0, .int .u8 0, .int .u8 0, .int .u8 0, .int .u8 0, .int .u8 0, .string ⟨#[]⟩, .slice none 0 0] 28))
  have HB2 := Kp.mk (HB1.out.alloc HB1.out.size (.cells #[.string ⟨#[]⟩, .int .i64 0, .int .i64 0, .int .u32 0, .bool false, .int .u8 0, .int .u8 0, .int .u8 0, .int .u8 0, .int .u8 0, .int .u8 0, .int .u8 0, .int .u8 0, .int .u8 0, .int .u8 0, .int .u8 0, .int .u8 0, .int .u8 0, .int .u8 0, .int .u8 0, .int .u8 0, .string ⟨#[]⟩, .slice none 0 0] 28))
  have HB3 := Kp.mk (HB2.out.alloc HB2.out.size (.cells #[.int .i64 0, .int .i64 0, .bool false] 38))
  have e1 : w.heap.size + 1 = (w.alloc (.cells #[.string (mkB qn), .int .i64 5, .int .i64 qc, .int .u32 tl, .bool false, .int .u8 0, .int .u8 0, .int .u8 0, .int .u8 0, .int .u8 0, .int .u8 0, .int .u8 0, .int .u8 0, .int .u8 0, .int .u8 0, .int .u8 0, .int .u8 0, .int .u8 0, .int .u8 0, .int .u8 0, .int .u8 0, .string ⟨#[]⟩, .slice none 0 0] 28)).heap.size := by simp
  have e2 : w.heap.size + 2 = ((w.alloc (.cells #[.string (mkB qn), .int .i64 5, .int .i64 qc, .int .u32 tl, .bool false, .int .u8 0, .int .u8 0, .int .u8 0, .int .u8 0, .int .u8 0, .int .u8 0, .int .u8 0, .int .u8 0, .int .u8 0, .int .u8 0, .int .u8 0, .int .u8 0, .int .u8 0, .int .u8 0, .int .u8 0, .int .u8 0, .string ⟨#[]⟩, .slice none 0 0] 28)).alloc (.cells #[.string ⟨#[]⟩, .int .i64 0, .int .i64 0, .int .u32 0, .bool false, .int .u8 0, .int .u8 0, .int .u8 0, .int .u8 0, .int .u8 0, .int .u8 0, .int .u8 0, .int .u8 0, .int .u8 0, .int .u8 0, .int .u8 0, .int .u8 0, .int .u8 0, .int .u8 0, .int .u8 0, .int .u8 0, .string ⟨#[]⟩, .slice none 0 0] 28)).heap.size := by simp
  have g1 := heap_new w (.cells #[.string (mkB qn), .int .i64 5, .int .i64 qc, .int .u32 tl, .bool false, .int .u8 0, .int .u8 0, .int .u8 0, .int .u8 0, .int .u8 0, .int .u8 0, .int .u8 0, .int .u8 0, .int .u8 0, .int .u8 0, .int .u8 0, .int .u8 0, .int .u8 0, .int .u8 0, .int .u8 0, .int .u8 0, .string ⟨#[]⟩, .slice none 0 0] 28)
  have g2 := heap_new (w.alloc (.cells #[.string (mkB qn), .int .i64 5, .int .i64 qc, .int .u32 tl, .bool false, .int .u8 0, .int .u8 0, .int .u8 0, .int .u8 0, .int .u8 0, .int .u8 0, .int .u8 0, .int .u8 0, .int .u8 0, .int .u8 0, .int .u8 0, .int .u8 0, .int .u8 0, .int .u8 0, .int .u8 0, .int .u8 0, .string ⟨#[]⟩, .slice none 0 0] 28)) (.cells #[.string ⟨#[]⟩, .int .i64 0, .int .i64 0, .int .u32 0, .bool false, .int .u8 0, .int .u8 0, .int .u8 0, .int .u8 0, .int .u8 0, .int .u8 0, .int .u8 0, .int .u8 0, .int .u8 0, .int .u8 0, .int .u8 0, .int .u8 0, .int .u8 0, .int .u8 0, .int .u8 0, .int .u8 0, .string ⟨#[]⟩, .slice none 0 0] 28)
  have g3 := heap_new ((w.alloc (.cells #[.string (mkB qn), .int .i64 5, .int .i64 qc, .int .u32 tl, .bool false, .int .u8 0, .int .u8 0, .int .u8 0, .int .u8 0, .int .u8 0, .int .u8 0, .int .u8 0, .int .u8 0, .int .u8 0, .int .u8 0, .int .u8 0, .int .u8 0, .int .u8 0, .int .u8 0, .int .u8 0, .int .u8 0, .string ⟨#[]⟩, .slice none 0 0] 28)).alloc (.cells #[.string ⟨#[]⟩, .int .i64 0, .int .i64 0, .int .u32 0, .bool false, .int .u8 0, .int .u8 0, .int .u8 0, .int .u8 0, .int .u8 0, .int .u8 0, .int .u8 0, .int .u8 0, .int .u8 0, .int .u8 0, .int .u8 0, .int .u8 0, .int .u8 0, .int .u8 0, .int .u8 0, .int .u8 0, .string ⟨#[]⟩, .slice none 0 0] 28)) (.cells #[.int .i64 0, .int .i64 0, .bool false] 38)
  have k2 := (((Below.refl _ _).alloc (Nat.le_refl _) (.cells #[.string ⟨#[]⟩, .int .i64 0, .int .i64 0, .int .u32 0, .bool false, .int .u8 0, .int .u8 0, .int .u8 0, .int .u8 0, .int .u8 0, .int .u8 0, .int .u8 0, .int .u8 0, .int .u8 0, .int .u8 0, .int .u8 0, .int .u8 0, .int .u8 0, .int .u8 0, .int .u8 0, .int .u8 0, .string ⟨#[]⟩, .slice none 0 0] 28)).block _ (heap_lt g1)).trans g1
  have HG5 := Kp.mk ((((Below.refl _ _).alloc (Nat.le_refl _) (.cells #[.int .i64 0, .int .i64 0, .bool false] 38)).block _ (heap_lt k2)).trans k2)
  have k3 := (((Below.refl _ _).alloc (Nat.le_refl _) (.cells #[.int .i64 0, .int .i64 0, .bool false] 38)).block _ (heap_lt g2)).trans g2
  rw [← e1] at k3
  rw [← e2] at g3
  have HG8 := Kp.mk k3
  have HG9 := Kp.mk g3
  clear g1 g2 g3 k2 k3 e1 e2 HB1 HB2 h hx
  have w2 : wrap64 (a - 2) = a - 2 := by unfold wrap64; omega
  go_enter Tryz.func47, Tryz.ntmps47
  go_wp2_with (fail)
  refine (stockadehelp_At.calls 7 (a - 2) 7 (a - 2) true _ rfl).mono ?_
  rintro e w4 ⟨rfl, hb⟩
  have HS4 := Kp.mk (below_step HB3.out hb)
  have HG5a := Kp.mk ((hb.block _ (heap_lt HG5.out)).trans HG5.out)
  have HG8a := Kp.mk ((hb.block _ (heap_lt HG8.out)).trans HG8.out)
  have HG9a := Kp.mk ((hb.block _ (heap_lt HG9.out)).trans HG9.out)
  have HS4a := Kp.mk (HS4.out.alloc HS4.out.size (.cells #[.int .i64 0, .int .i64 0, .bool false] 38))
  have hz4 := HS4.out.size
  have hz9 := heap_lt HG9a.out
  clear hb HG5 HG8 HG9
  go_wp2_with (with_reducible refine st_blk (w0 := w) (base := w.heap.size) rfl 38 (.tmp 10) (.tmp 17) rfl rfl w4.heap.size _ rfl rfl ⟨heap_new _ _⟩ (by kernel_rfl) (by kernel_rfl) (by kernel_rfl) HS4a hz4 ?_)
  intro w5 HE5 HO5 HS5 hs5
  have HN5 := Kp.mk (stored_new HS4.out HS5.out hs5 HO5.out)
  have HG5b := Kp.mk ((HN5.out.block _ (heap_lt HG5a.out)).trans HG5a.out)
  have HG8b := Kp.mk ((HN5.out.block _ (heap_lt HG8a.out)).trans HG8a.out)
  have HG9b := Kp.mk ((HN5.out.block _ (heap_lt HG9a.out)).trans HG9a.out)
  have HC5 := Kp.mk (Kd.C_below HC.out HS5.out)
  clear HG5a HG8a HG9a hs5 HO5
  have d1 := blk_cell HG5b.out 1
  have hu : failV er = .agg #[.int .i64 (failT er).1, .int .i64 (failT er).2.1, .bool (failT er).2.2] := failV_T er
  have HRD := Kp.mk (fun W (hW : (Kd.int .u8).C W A xs.length xs) => hu ▸ rread_calls A c xs a W nm en er hW hc HX.out hl hr)
  clear hu hr
  have hnz : (failT er).1 ≠ 0 := by rw [failT_num]; exact her
  obtain ⟨f1, hf1⟩ : ∃ f, (failT er).1 = f := ⟨_, rfl⟩
  obtain ⟨f2, hf2⟩ : ∃ f, (failT er).2.1 = f := ⟨_, rfl⟩
  obtain ⟨f3, hf3⟩ : ∃ f, (failT er).2.2 = f := ⟨_, rfl⟩
  rw [hf1, hf2, hf3] at HRD
  rw [hf1] at hnz
  have bnz : (f1 != 0) = true := by simpa using hnz
  have HV : Kp (failV er = .agg #[.int .i64 f1, .int .i64 f2, .bool f3]) := ⟨by rw [failV_T, hf1, hf2, hf3]⟩
  clear hnz her hf1 hf2 hf3
  go_wp2_with (fail)
  refine t_ (HRD.out _ HC5.out) HS5 ?_
  intro w6 HB6 HS6
  have HG5c := Kp.mk ((HB6.out.block _ (heap_lt HG5b.out)).trans HG5b.out)
  have HG8c := Kp.mk ((HB6.out.block _ (heap_lt HG8b.out)).trans HG8b.out)
  have HG9c := Kp.mk ((HB6.out.block _ (heap_lt HG9b.out)).trans HG9b.out)
  have HE6 := Kp.mk ((HB6.out.block _ (heap_lt HE5.out)).trans HE5.out)
  have HS6a := Kp.mk (HS6.out.alloc HS6.out.size (.cells #[.int .i64 0, .int .i64 0, .bool false] 38))
  have hz6 := HS6.out.size
  have hz6b := heap_lt HG9c.out
  have hz6e := heap_lt HE6.out
  clear d1
  go_wp2_with (with_reducible refine st_blk (w0 := w) (base := w.heap.size) rfl 38 (.tmp 14) (.tmp 67) rfl rfl w6.heap.size _ rfl rfl ⟨heap_new _ _⟩ (by kernel_rfl) (by kernel_rfl) (by kernel_rfl) HS6a hz6 ?_)
  intro w7 HE7 HO7 HS7 hs7
  have HN7 := Kp.mk (stored_new HS6.out HS7.out hs7 HO7.out)
  have HG5d := Kp.mk ((HN7.out.block _ (heap_lt HG5c.out)).trans HG5c.out)
  have HG8d := Kp.mk ((HN7.out.block _ (heap_lt HG8c.out)).trans HG8c.out)
  have HG9d := Kp.mk ((HN7.out.block _ (heap_lt HG9c.out)).trans HG9c.out)
  have HE7b := Kp.mk ((HN7.out.block _ (heap_lt HE6.out)).trans HE6.out)
  have f0 := blk_cell HE7.out 0
  clear hs7 HO7 HG5c HG8c HG9c
  go_wp2_with (fail)
  refine start_ (n := 4) (S := fun w' => w'.heap[w6.heap.size]? = some (.cells #[.int .i64 f1, .int .i64 f2, .bool f3] 38 (0, 0))) (ds := []) #[false, false, false, false] (by kernel_rfl) rfl rfl (HE7.out) (fun hHeld => ?_)
  refine take_blk (v := .agg #[.int .i64 f1, .int .i64 f2, .bool f3]) (i := 1) (N := some 72) (a' := ?_) #[false, true, false, false] rfl rfl (by kernel_rfl) (fun _ _ _ h => h) (by rfl) 38 (.tmp 14) rfl (w6.heap.size) (by rfl) #[.int .i64 f1, .int .i64 f2, .bool f3] rfl (fun _ h => h) Tryz.underlying38 rfl (by kernel_rfl) hHeld ?_ ?_
  rotate_left
  · simp only [Act.put, List.setIfInBounds_toArray, List.set_cons_zero, List.set_cons_succ]
    rfl
  refine pure_ (i := 0) (N := some 71) (v := ?_) (a' := ?_) #[true, true, false, false] rfl rfl (by kernel_rfl) (fun _ _ _ h => h) (Or.inl ⟨by rfl, ?_⟩) ?_ ?_
  rotate_left
  · intro w'
    go_simp
    with_reducible rfl
  rotate_left
  · simp only [Act.put, List.setIfInBounds_toArray, List.set_cons_zero, List.set_cons_succ]
    rfl
  refine one_ (i := 2) (N := none) #[true, true, true, false] rfl rfl (by kernel_rfl) (by decide) (fun K hK => ?_)
  refine st_step (w0 := w) (base := w.heap.size) (by rfl) 28 (.tmp 8) (.tmp 71) rfl rfl (w.heap.size + 1) _ rfl rfl ⟨HG8d.out⟩ (by kernel_rfl) (by kernel_rfl) (by kernel_rfl) ⟨(HS7.out).drew⟩ (Nat.le_succ _) ?_
  intro w8a H8a HO8a HS8a hs8a
  refine hK.out _ _ ((HO8a.out _ (by omega)).trans hHeld) (fun hHeld => ?_)
  clear hK K
  refine one_ (i := 3) (N := none) #[true, true, true, true] rfl rfl (by kernel_rfl) (by decide) (fun K hK => ?_)
  refine st_step (w0 := w) (base := w.heap.size) (by rfl) 38 (.tmp 9) (.tmp 72) rfl rfl (w.heap.size + 2) _ rfl rfl ⟨(HO8a.out _ (by omega)).trans (HG9d.out)⟩ (by kernel_rfl) (by kernel_rfl) (by kernel_rfl) HS8a (by omega) ?_
  intro w8b H9b HO9b HS9b hs9b
  refine hK.out _ _ ((HO9b.out _ (by omega)).trans hHeld) (fun hHeld => ?_)
  clear hK K
  have H8b := Kp.mk ((HO9b.out _ (by omega)).trans H8a.out)
  refine done_ (by kernel_rfl) ?_
  go_wp2
  refine bodyPost_ret (results_cc rfl _ _ (w.heap.size + 1) (w.heap.size + 2) 28 38 _ _ (0, 0) (0, 0) _ _ rfl H8b.out Tryz.underlying28 rfl (by kernel_rfl) rfl H9b.out Tryz.underlying38 rfl (by kernel_rfl)) rfl ?_
  exact ⟨.slice none 0 0, by rw [HV.out]; rfl, Kd.R_nil _ _ _ _ _, HS9b.out⟩
theorem rdata_5b (A : Option Addr) (c : Nat) (xs : List Int) (qn : L) (qc tl : Int) (a n : Int) (w : World) (h : (Kd.int .u8).C w A xs.length xs) (hc : xs.length ≤ c) (hx : Byts xs) (hl : xs.length ≤ 1000000) (h0 : 0 ≤ n) (h2 : 2 ≤ a) (han : a + n ≤ xs.length) (nm : L) (en : Int) (hr : readN xs a = (nm, en, .none)) (hne : en ≠ a + n) :
    Calls Tryz.prog 47 #[.slice A xs.length c, .agg #[.string (mkB qn), .int .i64 5, .int .i64 qc, .int .u32 tl, .bool false, .int .u8 0, .int .u8 0, .int .u8 0, .int .u8 0, .int .u8 0, .int .u8 0, .int .u8 0, .int .u8 0, .int .u8 0, .int .u8 0, .int .u8 0, .int .u8 0, .int .u8 0, .int .u8 0, .int .u8 0, .int .u8 0, .string ⟨#[]⟩, .slice none 0 0], .int .i64 a, .int .i64 n] w (DataPost (Rec.zero) (.fault (a - 2) 7) w) := by
  have HC := Kp.mk h
  have HX := Kp.mk hx
  have HB1 := Kp.mk ((Below.refl w.heap.size w).alloc (Nat.le_refl _) (.cells #[.string (mkB qn), .int .i64 5, .int .i64 qc, .int .u32 tl, .bool false, .int .u8 0, .int .u8 0, .int .u8 0, .int .u8 0, .int .u8 0, .int .u8 0, .int .u8 0, .int .u8 0, .int .u8 0, .int .u8 0, .int .u8 0, .int .u8 0, .int .u8 0, .int .u8 0, .int .u8 0, .int .u8 0, .string ⟨#[]⟩, .slice none 0 0] 28))
  have HB2 := Kp.mk (HB1.out.alloc HB1.out.size (.cells #[.string ⟨#[]⟩, .int .i64 0, .int .i64 0, .int .u32 0, .bool false, .int .u8 0, .int .u8 0, .int .u8 0, .int .u8 0, .int .u8 0, .int .u8 0, .int .u8 0, .int .u8 0, .int .u8 0, .int .u8 0, .int .u8 0, .int .u8 0, .int .u8 0, .int .u8 0, .int .u8 0, .int .u8 0, .string ⟨#[]⟩, .slice none 0 0] 28))
  have HB3 := Kp.mk (HB2.out.alloc HB2.out.size (.cells #[.int .i64 0, .int .i64 0, .bool false] 38))
  have e1 : w.heap.size + 1 = (w.alloc (.cells #[.string (mkB qn), .int .i64 5, .int .i64 qc, .int .u32 tl, .bool false, .int .u8 0, .int .u8 0, .int .u8 0, .int .u8 0, .int .u8 0, .int .u8 0, .int .u8 0, .int .u8 0, .int .u8 0, .int .u8 0, .int .u8 0, .int .u8 0, .int .u8 0, .int .u8 0, .int .u8 0, .int .u8 0, .string ⟨#[]⟩, .slice none 0 0] 28)).heap.size := by simp
  have e2 : w.heap.size + 2 = ((w.alloc (.cells #[.string (mkB qn), .int .i64 5, .int .i64 qc, .int .u32 tl, .bool false, .int .u8 0, .int .u8 0, .int .u8 0, .int .u8 0, .int .u8 0, .int .u8 0, .int .u8 0, .int .u8 0, .int .u8 0, .int .u8 0, .int .u8 0, .int .u8 0, .int .u8 0, .int .u8 0, .int .u8 0, .int .u8 0, .string ⟨#[]⟩, .slice none 0 0] 28)).alloc (.cells #[.string ⟨#[]⟩, .int .i64 0, .int .i64 0, .int .u32 0, .bool false, .int .u8 0, .int .u8 0, .int .u8 0, .int .u8 0, .int .u8 0, .int .u8 0, .int .u8 0, .int .u8 0, .int .u8 0, .int .u8 0, .int .u8 0, .int .u8 0, .int .u8 0, .int .u8 0, .int .u8 0, .int .u8 0, .string ⟨#[]⟩, .slice none 0 0] 28)).heap.size := by simp
  have g1 := heap_new w (.cells #[.string (mkB qn), .int .i64 5, .int .i64 qc, .int .u32 tl, .bool false, .int .u8 0, .int .u8 0, .int .u8 0, .int .u8 0, .int .u8 0, .int .u8 0, .int .u8 0, .int .u8 0, .int .u8 0, .int .u8 0, .int .u8 0, .int .u8 0, .int .u8 0, .int .u8 0, .int .u8 0, .int .u8 0, .string ⟨#[]⟩, .slice none 0 0] 28)
  have g2 := heap_new (w.alloc (.cells #[.string (mkB qn), .int .i64 5, .int .i64 qc, .int .u32 tl, .bool false, .int .u8 0, .int .u8 0, .int .u8 0, .int .u8 0, .int .u8 0, .int .u8 0, .int .u8 0, .int .u8 0, .int .u8 0, .int .u8 0, .int .u8 0, .int .u8 0, .int .u8 0, .int .u8 0, .int .u8 0, .int .u8 0, .string ⟨#[]⟩, .slice none 0 0] 28)) (.cells #[.string ⟨#[]⟩, .int .i64 0, .int .i64 0, .int .u32 0, .bool false, .int .u8 0, .int .u8 0, .int .u8 0, .int .u8 0, .int .u8 0, .int .u8 0, .int .u8 0, .int .u8 0, .int .u8 0, .int .u8 0, .int .u8 0, .int .u8 0, .int .u8 0, .int .u8 0, .int .u8 0, .int .u8 0, .string ⟨#[]⟩, .slice none 0 0] 28)
  have g3 := heap_new ((w.alloc (.cells #[.string (mkB qn), .int .i64 5, .int .i64 qc, .int .u32 tl, .bool false, .int .u8 0, .int .u8 0, .int .u8 0, .int .u8 0, .int .u8 0, .int .u8 0, .int .u8 0, .int .u8 0, .int .u8 0, .int .u8 0, .int .u8 0, .int .u8 0, .int .u8 0, .int .u8 0, .int .u8 0, .int .u8 0, .string ⟨#[]⟩, .slice none 0 0] 28)).alloc (.cells #[.string ⟨#[]⟩, .int .i64 0, .int .i64 0, .int .u32 0, .bool false, .int .u8 0, .int .u8 0, .int .u8 0, .int .u8 0, .int .u8 0, .int .u8 0, .int .u8 0, .int .u8 0, .int .u8 0, .int .u8 0, .int .u8 0, .int .u8 0, .int .u8 0, .int .u8 0, .int .u8 0, .int .u8 0, .string ⟨#[]⟩, .slice none 0 0] 28)) (.cells #[.int .i64 0, .int .i64 0, .bool false] 38)
  have k2 := (((Below.refl _ _).alloc (Nat.le_refl _) (.cells #[.string ⟨#[]⟩, .int .i64 0, .int .i64 0, .int .u32 0, .bool false, .int .u8 0, .int .u8 0, .int .u8 0, .int .u8 0, .int .u8 0, .int .u8 0, .int .u8 0, .int .u8 0, .int .u8 0, .int .u8 0, .int .u8 0, .int .u8 0, .int .u8 0, .int .u8 0, .int .u8 0, .int .u8 0, .string ⟨#[]⟩, .slice none 0 0] 28)).block _ (heap_lt g1)).trans g1
  have HG5 := Kp.mk ((((Below.refl _ _).alloc (Nat.le_refl _) (.cells #[.int .i64 0, .int .i64 0, .bool false] 38)).block _ (heap_lt k2)).trans k2)
  have k3 := (((Below.refl _ _).alloc (Nat.le_refl _) (.cells #[.int .i64 0, .int .i64 0, .bool false] 38)).block _ (heap_lt g2)).trans g2
  rw [← e1] at k3
  rw [← e2] at g3
  have HG8 := Kp.mk k3
  have HG9 := Kp.mk g3
  clear g1 g2 g3 k2 k3 e1 e2 HB1 HB2 h hx
  have w2 : wrap64 (a - 2) = a - 2 := by unfold wrap64; omega
  go_enter Tryz.func47, Tryz.ntmps47
  go_wp2_with (fail)
  refine (stockadehelp_At.calls 7 (a - 2) 7 (a - 2) true _ rfl).mono ?_
  rintro e w4 ⟨rfl, hb⟩
  have HS4 := Kp.mk (below_step HB3.out hb)
  have HG5a := Kp.mk ((hb.block _ (heap_lt HG5.out)).trans HG5.out)
  have HG8a := Kp.mk ((hb.block _ (heap_lt HG8.out)).trans HG8.out)
  have HG9a := Kp.mk ((hb.block _ (heap_lt HG9.out)).trans HG9.out)
  have HS4a := Kp.mk (HS4.out.alloc HS4.out.size (.cells #[.int .i64 0, .int .i64 0, .bool false] 38))
  have hz4 := HS4.out.size
  have hz9 := heap_lt HG9a.out
  clear hb HG5 HG8 HG9
  go_wp2_with (with_reducible refine st_blk (w0 := w) (base := w.heap.size) rfl 38 (.tmp 10) (.tmp 17) rfl rfl w4.heap.size _ rfl rfl ⟨heap_new _ _⟩ (by kernel_rfl) (by kernel_rfl) (by kernel_rfl) HS4a hz4 ?_)
  intro w5 HE5 HO5 HS5 hs5
  have HN5 := Kp.mk (stored_new HS4.out HS5.out hs5 HO5.out)
  have HG5b := Kp.mk ((HN5.out.block _ (heap_lt HG5a.out)).trans HG5a.out)
  have HG8b := Kp.mk ((HN5.out.block _ (heap_lt HG8a.out)).trans HG8a.out)
  have HG9b := Kp.mk ((HN5.out.block _ (heap_lt HG9a.out)).trans HG9a.out)
  have HC5 := Kp.mk (Kd.C_below HC.out HS5.out)
  clear HG5a HG8a HG9a hs5 HO5
  have d1 := blk_cell HG5b.out 1
  have hu : failV .none = .agg #[.int .i64 0, .int .i64 0, .bool false] := rfl
  have HRD := Kp.mk (fun W (hW : (Kd.int .u8).C W A xs.length xs) => hu ▸ rread_calls A c xs a W nm en .none hW hc HX.out hl hr)
  clear hu hr
  go_wp2_with (fail)
  refine t_ (HRD.out _ HC5.out) HS5 ?_
  intro w6 HB6 HS6
  have HG5c := Kp.mk ((HB6.out.block _ (heap_lt HG5b.out)).trans HG5b.out)
  have HG8c := Kp.mk ((HB6.out.block _ (heap_lt HG8b.out)).trans HG8b.out)
  have HG9c := Kp.mk ((HB6.out.block _ (heap_lt HG9b.out)).trans HG9b.out)
  have HE6 := Kp.mk ((HB6.out.block _ (heap_lt HE5.out)).trans HE5.out)
  have HS6a := Kp.mk (HS6.out.alloc HS6.out.size (.cells #[.int .i64 0, .int .i64 0, .bool false] 38))
  have hz6 := HS6.out.size
  have hz6b := heap_lt HG9c.out
  have hz6e := heap_lt HE6.out
  clear d1
  go_wp2_with (with_reducible refine st_blk (w0 := w) (base := w.heap.size) rfl 38 (.tmp 14) (.tmp 67) rfl rfl w6.heap.size _ rfl rfl ⟨heap_new _ _⟩ (by kernel_rfl) (by kernel_rfl) (by kernel_rfl) HS6a hz6 ?_)
  intro w7 HE7 HO7 HS7 hs7
  have HN7 := Kp.mk (stored_new HS6.out HS7.out hs7 HO7.out)
  have HG5d := Kp.mk ((HN7.out.block _ (heap_lt HG5c.out)).trans HG5c.out)
  have HG8d := Kp.mk ((HN7.out.block _ (heap_lt HG8c.out)).trans HG8c.out)
  have HG9d := Kp.mk ((HN7.out.block _ (heap_lt HG9c.out)).trans HG9c.out)
  have HE7b := Kp.mk ((HN7.out.block _ (heap_lt HE6.out)).trans HE6.out)
  have f0 := blk_cell HE7.out 0
  clear hs7 HO7 HG5c HG8c HG9c
  have wn : wrap64 (a + n) = a + n := by unfold wrap64; omega
  have bne : (en != a + n) = true := by simpa using hne
  clear hne
  go_wp2_with (fail)
  refine start_ (n := 4) (S := fun w' => w'.heap[w4.heap.size]? = some (.cells #[.int .i64 7, .int .i64 (a - 2), .bool true] 38 (0, 0))) (ds := []) #[false, false, false, false] (by kernel_rfl) rfl rfl (HE7b.out) (fun hHeld => ?_)
  refine take_blk (v := .agg #[.int .i64 7, .int .i64 (a - 2), .bool true]) (i := 1) (N := some 79) (a' := ?_) #[false, true, false, false] rfl rfl (by kernel_rfl) (fun _ _ _ h => h) (by rfl) 38 (.tmp 10) rfl (w4.heap.size) (by rfl) #[.int .i64 7, .int .i64 (a - 2), .bool true] rfl (fun _ h => h) Tryz.underlying38 rfl (by kernel_rfl) hHeld ?_ ?_
  rotate_left
  · simp only [Act.put, List.setIfInBounds_toArray, List.set_cons_zero, List.set_cons_succ]
    rfl
  refine pure_ (i := 0) (N := some 78) (v := ?_) (a' := ?_) #[true, true, false, false] rfl rfl (by kernel_rfl) (fun _ _ _ h => h) (Or.inl ⟨by rfl, ?_⟩) ?_ ?_
  rotate_left
  · intro w'
    go_simp
    with_reducible rfl
  rotate_left
  · simp only [Act.put, List.setIfInBounds_toArray, List.set_cons_zero, List.set_cons_succ]
    rfl
  refine one_ (i := 2) (N := none) #[true, true, true, false] rfl rfl (by kernel_rfl) (by decide) (fun K hK => ?_)
  refine st_step (w0 := w) (base := w.heap.size) (by rfl) 28 (.tmp 8) (.tmp 78) rfl rfl (w.heap.size + 1) _ rfl rfl ⟨HG8d.out⟩ (by kernel_rfl) (by kernel_rfl) (by kernel_rfl) ⟨(HS7.out).drew⟩ (Nat.le_succ _) ?_
  intro w8a H8a HO8a HS8a hs8a
  refine hK.out _ _ ((HO8a.out _ (by omega)).trans hHeld) (fun hHeld => ?_)
  clear hK K
  refine one_ (i := 3) (N := none) #[true, true, true, true] rfl rfl (by kernel_rfl) (by decide) (fun K hK => ?_)
  refine st_step (w0 := w) (base := w.heap.size) (by rfl) 38 (.tmp 9) (.tmp 79) rfl rfl (w.heap.size + 2) _ rfl rfl ⟨(HO8a.out _ (by omega)).trans (HG9d.out)⟩ (by kernel_rfl) (by kernel_rfl) (by kernel_rfl) HS8a (by omega) ?_
  intro w8b H9b HO9b HS9b hs9b
  refine hK.out _ _ ((HO9b.out _ (by omega)).trans hHeld) (fun hHeld => ?_)
  clear hK K
  have H8b := Kp.mk ((HO9b.out _ (by omega)).trans H8a.out)
  refine done_ (by kernel_rfl) ?_
  go_wp2
  refine bodyPost_ret (results_cc rfl _ _ (w.heap.size + 1) (w.heap.size + 2) 28 38 _ _ (0, 0) (0, 0) _ _ rfl H8b.out Tryz.underlying28 rfl (by kernel_rfl) rfl H9b.out Tryz.underlying38 rfl (by kernel_rfl)) rfl ?_
  exact ⟨.slice none 0 0, rfl, Kd.R_nil _ _ _ _ _, HS9b.out⟩
theorem rdata_5c (A : Option Addr) (c : Nat) (xs : List Int) (qn : L) (qc tl : Int) (a n : Int) (w : World) (h : (Kd.int .u8).C w A xs.length xs) (hc : xs.length ≤ c) (hx : Byts xs) (hl : xs.length ≤ 1000000) (h0 : 0 ≤ n) (h2 : 2 ≤ a) (han : a + n ≤ xs.length) (nm : L) (en : Int) (hr : readN xs a = (nm, en, .none)) (hne : en = a + n) :
    Calls Tryz.prog 47 #[.slice A xs.length c, .agg #[.string (mkB qn), .int .i64 5, .int .i64 qc, .int .u32 tl, .bool false, .int .u8 0, .int .u8 0, .int .u8 0, .int .u8 0, .int .u8 0, .int .u8 0, .int .u8 0, .int .u8 0, .int .u8 0, .int .u8 0, .int .u8 0, .int .u8 0, .int .u8 0, .int .u8 0, .int .u8 0, .int .u8 0, .string ⟨#[]⟩, .slice none 0 0], .int .i64 a, .int .i64 n] w (DataPost (⟨qn, 5, qc, tl, Ad.zero, nm, []⟩) (.none) w) := by
  have HC := Kp.mk h
  have HX := Kp.mk hx
  have HB1 := Kp.mk ((Below.refl w.heap.size w).alloc (Nat.le_refl _) (.cells #[.string (mkB qn), .int .i64 5, .int .i64 qc, .int .u32 tl, .bool false, .int .u8 0, .int .u8 0, .int .u8 0, .int .u8 0, .int .u8 0, .int .u8 0, .int .u8 0, .int .u8 0, .int .u8 0, .int .u8 0, .int .u8 0, .int .u8 0, .int .u8 0, .int .u8 0, .int .u8 0, .int .u8 0, .string ⟨#[]⟩, .slice none 0 0] 28))
  have HB2 := Kp.mk (HB1.out.alloc HB1.out.size (.cells #[.string ⟨#[]⟩, .int .i64 0, .int .i64 0, .int .u32 0, .bool false, .int .u8 0, .int .u8 0, .int .u8 0, .int .u8 0, .int .u8 0, .int .u8 0, .int .u8 0, .int .u8 0, .int .u8 0, .int .u8 0, .int .u8 0, .int .u8 0, .int .u8 0, .int .u8 0, .int .u8 0, .int .u8 0, .string ⟨#[]⟩, .slice none 0 0] 28))
  have HB3 := Kp.mk (HB2.out.alloc HB2.out.size (.cells #[.int .i64 0, .int .i64 0, .bool false] 38))
  have e1 : w.heap.size + 1 = (w.alloc (.cells #[.string (mkB qn), .int .i64 5, .int .i64 qc, .int .u32 tl, .bool false, .int .u8 0, .int .u8 0, .int .u8 0, .int .u8 0, .int .u8 0, .int .u8 0, .int .u8 0, .int .u8 0, .int .u8 0, .int .u8 0, .int .u8 0, .int .u8 0, .int .u8 0, .int .u8 0, .int .u8 0, .int .u8 0, .string ⟨#[]⟩, .slice none 0 0] 28)).heap.size := by simp
  have e2 : w.heap.size + 2 = ((w.alloc (.cells #[.string (mkB qn), .int .i64 5, .int .i64 qc, .int .u32 tl, .bool false, .int .u8 0, .int .u8 0, .int .u8 0, .int .u8 0, .int .u8 0, .int .u8 0, .int .u8 0, .int .u8 0, .int .u8 0, .int .u8 0, .int .u8 0, .int .u8 0, .int .u8 0, .int .u8 0, .int .u8 0, .int .u8 0, .string ⟨#[]⟩, .slice none 0 0] 28)).alloc (.cells #[.string ⟨#[]⟩, .int .i64 0, .int .i64 0, .int .u32 0, .bool false, .int .u8 0, .int .u8 0, .int .u8 0, .int .u8 0, .int .u8 0, .int .u8 0, .int .u8 0, .int .u8 0, .int .u8 0, .int .u8 0, .int .u8 0, .int .u8 0, .int .u8 0, .int .u8 0, .int .u8 0, .int .u8 0, .string ⟨#[]⟩, .slice none 0 0] 28)).heap.size := by simp
  have g1 := heap_new w (.cells #[.string (mkB qn), .int .i64 5, .int .i64 qc, .int .u32 tl, .bool false, .int .u8 0, .int .u8 0, .int .u8 0, .int .u8 0, .int .u8 0, .int .u8 0, .int .u8 0, .int .u8 0, .int .u8 0, .int .u8 0, .int .u8 0, .int .u8 0, .int .u8 0, .int .u8 0, .int .u8 0, .int .u8 0, .string ⟨#[]⟩, .slice none 0 0] 28)
  have g2 := heap_new (w.alloc (.cells #[.string (mkB qn), .int .i64 5, .int .i64 qc, .int .u32 tl, .bool false, .int .u8 0, .int .u8 0, .int .u8 0, .int .u8 0, .int .u8 0, .int .u8 0, .int .u8 0, .int .u8 0, .int .u8 0, .int .u8 0, .int .u8 0, .int .u8 0, .int .u8 0, .int .u8 0, .int .u8 0, .int .u8 0, .string ⟨#[]⟩, .slice none 0 0] 28)) (.cells #[.string ⟨#[]⟩, .int .i64 0, .int .i64 0, .int .u32 0, .bool false, .int .u8 0, .int .u8 0, .int .u8 0, .int .u8 0, .int .u8 0, .int .u8 0, .int .u8 0, .int .u8 0, .int .u8 0, .int .u8 0, .int .u8 0, .int .u8 0, .int .u8 0, .int .u8 0, .int .u8 0, .int .u8 0, .string ⟨#[]⟩, .slice none 0 0] 28)
  have g3 := heap_new ((w.alloc (.cells #[.string (mkB qn), .int .i64 5, .int .i64 qc, .int .u32 tl, .bool false, .int .u8 0, .int .u8 0, .int .u8 0, .int .u8 0, .int .u8 0, .int .u8 0, .int .u8 0, .int .u8 0, .int .u8 0, .int .u8 0, .int .u8 0, .int .u8 0, .int .u8 0, .int .u8 0, .int .u8 0, .int .u8 0, .string ⟨#[]⟩, .slice none 0 0] 28)).alloc (.cells #[.string ⟨#[]⟩, .int .i64 0, .int .i64 0, .int .u32 0, .bool false, .int .u8 0, .int .u8 0, .int .u8 0, .int .u8 0, .int .u8 0, .int .u8 0, .int .u8 0, .int .u8 0, .int .u8 0, .int .u8 0, .int .u8 0, .int .u8 0, .int .u8 0, .int .u8 0, .int .u8 0, .int .u8 0, .string ⟨#[]⟩, .slice none 0 0] 28)) (.cells #[.int .i64 0, .int .i64 0, .bool false] 38)
  have k2 := (((Below.refl _ _).alloc (Nat.le_refl _) (.cells #[.string ⟨#[]⟩, .int .i64 0, .int .i64 0, .int .u32 0, .bool false, .int .u8 0, .int .u8 0, .int .u8 0, .int .u8 0, .int .u8 0, .int .u8 0, .int .u8 0, .int .u8 0, .int .u8 0, .int .u8 0, .int .u8 0, .int .u8 0, .int .u8 0, .int .u8 0, .int .u8 0, .int .u8 0, .string ⟨#[]⟩, .slice none 0 0] 28)).block _ (heap_lt g1)).trans g1
  have HG5 := Kp.mk ((((Below.refl _ _).alloc (Nat.le_refl _) (.cells #[.int .i64 0, .int .i64 0, .bool false] 38)).block _ (heap_lt k2)).trans k2)
  have k3 := (((Below.refl _ _).alloc (Nat.le_refl _) (.cells #[.int .i64 0, .int .i64 0, .bool false] 38)).block _ (heap_lt g2)).trans g2
  rw [← e1] at k3
  rw [← e2] at g3
  have HG8 := Kp.mk k3
  have HG9 := Kp.mk g3
  clear g1 g2 g3 k2 k3 e1 e2 HB1 HB2 h hx
  have w2 : wrap64 (a - 2) = a - 2 := by unfold wrap64; omega
  go_enter Tryz.func47, Tryz.ntmps47
  go_wp2_with (fail)
  refine (stockadehelp_At.calls 7 (a - 2) 7 (a - 2) true _ rfl).mono ?_
  rintro e w4 ⟨rfl, hb⟩
  have HS4 := Kp.mk (below_step HB3.out hb)
  have HG5a := Kp.mk ((hb.block _ (heap_lt HG5.out)).trans HG5.out)
  have HG8a := Kp.mk ((hb.block _ (heap_lt HG8.out)).trans HG8.out)
  have HG9a := Kp.mk ((hb.block _ (heap_lt HG9.out)).trans HG9.out)
  have HS4a := Kp.mk (HS4.out.alloc HS4.out.size (.cells #[.int .i64 0, .int .i64 0, .bool false] 38))
  have hz4 := HS4.out.size
  have hz9 := heap_lt HG9a.out
  clear hb HG5 HG8 HG9
  go_wp2_with (with_reducible refine st_blk (w0 := w) (base := w.heap.size) rfl 38 (.tmp 10) (.tmp 17) rfl rfl w4.heap.size _ rfl rfl ⟨heap_new _ _⟩ (by kernel_rfl) (by kernel_rfl) (by kernel_rfl) HS4a hz4 ?_)
  intro w5 HE5 HO5 HS5 hs5
  have HN5 := Kp.mk (stored_new HS4.out HS5.out hs5 HO5.out)
  have HG5b := Kp.mk ((HN5.out.block _ (heap_lt HG5a.out)).trans HG5a.out)
  have HG8b := Kp.mk ((HN5.out.block _ (heap_lt HG8a.out)).trans HG8a.out)
  have HG9b := Kp.mk ((HN5.out.block _ (heap_lt HG9a.out)).trans HG9a.out)
  have HC5 := Kp.mk (Kd.C_below HC.out HS5.out)
  clear HG5a HG8a HG9a hs5 HO5
  have d1 := blk_cell HG5b.out 1
  have hu : failV .none = .agg #[.int .i64 0, .int .i64 0, .bool false] := rfl
  have HRD := Kp.mk (fun W (hW : (Kd.int .u8).C W A xs.length xs) => hu ▸ rread_calls A c xs a W nm en .none hW hc HX.out hl hr)
  clear hu hr
  go_wp2_with (fail)
  refine t_ (HRD.out _ HC5.out) HS5 ?_
  intro w6 HB6 HS6
  have HG5c := Kp.mk ((HB6.out.block _ (heap_lt HG5b.out)).trans HG5b.out)
  have HG8c := Kp.mk ((HB6.out.block _ (heap_lt HG8b.out)).trans HG8b.out)
  have HG9c := Kp.mk ((HB6.out.block _ (heap_lt HG9b.out)).trans HG9b.out)
  have HE6 := Kp.mk ((HB6.out.block _ (heap_lt HE5.out)).trans HE5.out)
  have HS6a := Kp.mk (HS6.out.alloc HS6.out.size (.cells #[.int .i64 0, .int .i64 0, .bool false] 38))
  have hz6 := HS6.out.size
  have hz6b := heap_lt HG9c.out
  have hz6e := heap_lt HE6.out
  clear d1
  go_wp2_with (with_reducible refine st_blk (w0 := w) (base := w.heap.size) rfl 38 (.tmp 14) (.tmp 67) rfl rfl w6.heap.size _ rfl rfl ⟨heap_new _ _⟩ (by kernel_rfl) (by kernel_rfl) (by kernel_rfl) HS6a hz6 ?_)
  intro w7 HE7 HO7 HS7 hs7
  have HN7 := Kp.mk (stored_new HS6.out HS7.out hs7 HO7.out)
  have HG5d := Kp.mk ((HN7.out.block _ (heap_lt HG5c.out)).trans HG5c.out)
  have HG8d := Kp.mk ((HN7.out.block _ (heap_lt HG8c.out)).trans HG8c.out)
  have HG9d := Kp.mk ((HN7.out.block _ (heap_lt HG9c.out)).trans HG9c.out)
  have HE7b := Kp.mk ((HN7.out.block _ (heap_lt HE6.out)).trans HE6.out)
  have f0 := blk_cell HE7.out 0
  clear hs7 HO7 HG5c HG8c HG9c
  have wn : wrap64 (a + n) = en := by unfold wrap64; omega
  have bne : (en != en) = false := by simp
  clear hne
  have cp := blk_cell HG5d.out 21
  have yp := blk_frozen HG5d.out 21
  have HP5p := Kp.mk (blk_put HG5d.out 21 (.string (mkB nm)) (cs' := #[.string (mkB qn), .int .i64 5, .int .i64 qc, .int .u32 tl, .bool false, .int .u8 0, .int .u8 0, .int .u8 0, .int .u8 0, .int .u8 0, .int .u8 0, .int .u8 0, .int .u8 0, .int .u8 0, .int .u8 0, .int .u8 0, .int .u8 0, .int .u8 0, .int .u8 0, .int .u8 0, .int .u8 0, .string (mkB nm), .slice none 0 0]) rfl)
  have HP8p := Kp.mk ((Below.heap_setCell w7 ⟨w.heap.size, 21, none⟩ (.string (mkB nm)) (w.heap.size + 1) (by simp)).trans HG8d.out)
  have HP9p := Kp.mk ((Below.heap_setCell w7 ⟨w.heap.size, 21, none⟩ (.string (mkB nm)) (w.heap.size + 2) (by simp)).trans HG9d.out)
  have HPSp := Kp.mk (HS7.out.setCell (p := ⟨w.heap.size, 21, none⟩) (Nat.le_refl _) (.string (mkB nm)))
  go_wp2_with (first | (with_reducible refine ld_blk rfl 28 (.tmp 5) rfl w.heap.size rfl HP5p Tryz.underlying28 rfl (by kernel_rfl) ?_) | (with_reducible refine st_blk (w0 := w) (base := w.heap.size) rfl 28 (.tmp 8) (.tmp 82) rfl rfl (w.heap.size + 1) _ rfl rfl HP8p (by kernel_rfl) (by kernel_rfl) (by kernel_rfl) HPSp (Nat.le_succ _) ?_))
  intro w20 H20 HO20 HS20 hs20
  have HG9z := Kp.mk ((HO20.out _ (by omega)).trans HP9p.out)
  go_wp2_with (with_reducible refine st_blk (w0 := w) (base := w.heap.size) rfl 38 (.tmp 9) (.tmp 83) rfl rfl (w.heap.size + 2) _ rfl rfl HG9z (by kernel_rfl) (by kernel_rfl) (by kernel_rfl) HS20 (by omega) ?_)
  intro w21 H21 HO21 HS21 hs21
  have H20b := Kp.mk ((HO21.out _ (by omega)).trans H20.out)
  go_wp2
  refine bodyPost_ret (results_cc rfl _ _ (w.heap.size + 1) (w.heap.size + 2) 28 38 _ _ (0, 0) (0, 0) _ _ rfl H20b.out Tryz.underlying28 rfl (by kernel_rfl) rfl H21.out Tryz.underlying38 rfl (by kernel_rfl)) rfl ?_
  exact ⟨.slice none 0 0, rfl, Kd.R_nil _ _ _ _ _, HS21.out⟩
theorem rdata_1b (A : Option Addr) (c : Nat) (xs : List Int) (qn : L) (qc tl : Int) (a n : Int) (w : World) (h : (Kd.int .u8).C w A xs.length xs) (hc : xs.length ≤ c) (hx : Byts xs) (hl : xs.length ≤ 1000000) (h0 : 0 ≤ n) (h2 : 2 ≤ a) (han : a + n ≤ xs.length) (hne : n ≠ 4) :
    Calls Tryz.prog 47 #[.slice A xs.length c, .agg #[.string (mkB qn), .int .i64 1, .int .i64 qc, .int .u32 tl, .bool false, .int .u8 0, .int .u8 0, .int .u8 0, .int .u8 0, .int .u8 0, .int .u8 0, .int .u8 0, .int .u8 0, .int .u8 0, .int .u8 0, .int .u8 0, .int .u8 0, .int .u8 0, .int .u8 0, .int .u8 0, .int .u8 0, .string ⟨#[]⟩, .slice none 0 0], .int .i64 a, .int .i64 n] w (DataPost (Rec.zero) (.fault (a - 2) 7) w) := by
  have HC := Kp.mk h
  have HX := Kp.mk hx
  have HB1 := Kp.mk ((Below.refl w.heap.size w).alloc (Nat.le_refl _) (.cells #[.string (mkB qn), .int .i64 1, .int .i64 qc, .int .u32 tl, .bool false, .int .u8 0, .int .u8 0, .int .u8 0, .int .u8 0, .int .u8 0, .int .u8 0, .int .u8 0, .int .u8 0, .int .u8 0, .int .u8 0, .int .u8 0, .int .u8 0, .int .u8 0, .int .u8 0, .int .u8 0, .int .u8 0, .string ⟨#[]⟩, .slice none 0 0] 28))
  have HB2 := Kp.mk (HB1.out.alloc HB1.out.size (.cells #[.string ⟨#[]⟩, .int .i64 0, .int .i64 0, .int .u32 0, .bool false, .int .u8 0, .int .u8 0, .int .u8 0, .int .u8 0, .int .u8 0, .int .u8 0, .int .u8 0, .int .u8 0, .int .u8 0, .int .u8 0, .int .u8 0, .int .u8 0, .int .u8 0, .int .u8 0, .int .u8 0, .int .u8 0, .string ⟨#[]⟩, .slice none 0 0] 28))
  have HB3 := Kp.mk (HB2.out.alloc HB2.out.size (.cells #[.int .i64 0, .int .i64 0, .bool false] 38))
  have e1 : w.heap.size + 1 = (w.alloc (.cells #[.string (mkB qn), .int .i64 1, .int .i64 qc, .int .u32 tl, .bool false, .int .u8 0, .int .u8 0, .int .u8 0, .int .u8 0, .int .u8 0, .int .u8 0, .int .u8 0, .int .u8 0, .int .u8 0, .int .u8 0, .int .u8 0, .int .u8 0, .int .u8 0, .int .u8 0, .int .u8 0, .int .u8 0, .string ⟨#[]⟩, .slice none 0 0] 28)).heap.size := by simp
  have e2 : w.heap.size + 2 = ((w.alloc (.cells #[.string (mkB qn), .int .i64 1, .int .i64 qc, .int .u32 tl, .bool false, .int .u8 0, .int .u8 0, .int .u8 0, .int .u8 0, .int .u8 0, .int .u8 0, .int .u8 0, .int .u8 0, .int .u8 0, .int .u8 0, .int .u8 0, .int .u8 0, .int .u8 0, .int .u8 0, .int .u8 0, .int .u8 0, .string ⟨#[]⟩, .slice none 0 0] 28)).alloc (.cells #[.string ⟨#[]⟩, .int .i64 0, .int .i64 0, .int .u32 0, .bool false, .int .u8 0, .int .u8 0, .int .u8 0, .int .u8 0, .int .u8 0, .int .u8 0, .int .u8 0, .int .u8 0, .int .u8 0, .int .u8 0, .int .u8 0, .int .u8 0, .int .u8 0, .int .u8 0, .int .u8 0, .int .u8 0, .string ⟨#[]⟩, .slice none 0 0] 28)).heap.size := by simp
  have g1 := heap_new w (.cells #[.string (mkB qn), .int .i64 1, .int .i64 qc, .int .u32 tl, .bool false, .int .u8 0, .int .u8 0, .int .u8 0, .int .u8 0, .int .u8 0, .int .u8 0, .int .u8 0, .int .u8 0, .int .u8 0, .int .u8 0, .int .u8 0, .int .u8 0, .int .u8 0, .int .u8 0, .int .u8 0, .int .u8 0, .string ⟨#[]⟩, .slice none 0 0] 28)
  have g2 := heap_new (w.alloc (.cells #[.string (mkB qn), .int .i64 1, .int .i64 qc, .int .u32 tl, .bool false, .int .u8 0, .int .u8 0, .int .u8 0, .int .u8 0, .int .u8 0, .int .u8 0, .int .u8 0, .int .u8 0, .int .u8 0, .int .u8 0, .int .u8 0, .int .u8 0, .int .u8 0, .int .u8 0, .int .u8 0, .int .u8 0, .string ⟨#[]⟩, .slice none 0 0] 28)) (.cells #[.string ⟨#[]⟩, .int .i64 0, .int .i64 0, .int .u32 0, .bool false, .int .u8 0, .int .u8 0, .int .u8 0, .int .u8 0, .int .u8 0, .int .u8 0, .int .u8 0, .int .u8 0, .int .u8 0, .int .u8 0, .int .u8 0, .int .u8 0, .int .u8 0, .int .u8 0, .int .u8 0, .int .u8 0, .string ⟨#[]⟩, .slice none 0 0] 28)
  have g3 := heap_new ((w.alloc (.cells #[.string (mkB qn), .int .i64 1, .int .i64 qc, .int .u32 tl, .bool false, .int .u8 0, .int .u8 0, .int .u8 0, .int .u8 0, .int .u8 0, .int .u8 0, .int .u8 0, .int .u8 0, .int .u8 0, .int .u8 0, .int .u8 0, .int .u8 0, .int .u8 0, .int .u8 0, .int .u8 0, .int .u8 0, .string ⟨#[]⟩, .slice none 0 0] 28)).alloc (.cells #[.string ⟨#[]⟩, .int .i64 0, .int .i64 0, .int .u32 0, .bool false, .int .u8 0, .int .u8 0, .int .u8 0, .int .u8 0, .int .u8 0, .int .u8 0, .int .u8 0, .int .u8 0, .int .u8 0, .int .u8 0, .int .u8 0, .int .u8 0, .int .u8 0, .int .u8 0, .int .u8 0, .int .u8 0, .string ⟨#[]⟩, .slice none 0 0] 28)) (.cells #[.int .i64 0, .int .i64 0, .bool false] 38)
  have k2 := (((Below.refl _ _).alloc (Nat.le_refl _) (.cells #[.string ⟨#[]⟩, .int .i64 0, .int .i64 0, .int .u32 0, .bool false, .int .u8 0, .int .u8 0, .int .u8 0, .int .u8 0, .int .u8 0, .int .u8 0, .int .u8 0, .int .u8 0, .int .u8 0, .int .u8 0, .int .u8 0, .int .u8 0, .int .u8 0, .int .u8 0, .int .u8 0, .int .u8 0, .string ⟨#[]⟩, .slice none 0 0] 28)).block _ (heap_lt g1)).trans g1
  have HG5 := Kp.mk ((((Below.refl _ _).alloc (Nat.le_refl _) (.cells #[.int .i64 0, .int .i64 0, .bool false] 38)).block _ (heap_lt k2)).trans k2)
  have k3 := (((Below.refl _ _).alloc (Nat.le_refl _) (.cells #[.int .i64 0, .int .i64 0, .bool false] 38)).block _ (heap_lt g2)).trans g2
  rw [← e1] at k3
  rw [← e2] at g3
  have HG8 := Kp.mk k3
  have HG9 := Kp.mk g3
  clear g1 g2 g3 k2 k3 e1 e2 HB1 HB2 h hx
  have w2 : wrap64 (a - 2) = a - 2 := by unfold wrap64; omega
  go_enter Tryz.func47, Tryz.ntmps47
  go_wp2_with (fail)
  refine (stockadehelp_At.calls 7 (a - 2) 7 (a - 2) true _ rfl).mono ?_
  rintro e w4 ⟨rfl, hb⟩
  have HS4 := Kp.mk (below_step HB3.out hb)
  have HG5a := Kp.mk ((hb.block _ (heap_lt HG5.out)).trans HG5.out)
  have HG8a := Kp.mk ((hb.block _ (heap_lt HG8.out)).trans HG8.out)
  have HG9a := Kp.mk ((hb.block _ (heap_lt HG9.out)).trans HG9.out)
  have HS4a := Kp.mk (HS4.out.alloc HS4.out.size (.cells #[.int .i64 0, .int .i64 0, .bool false] 38))
  have hz4 := HS4.out.size
  have hz9 := heap_lt HG9a.out
  clear hb HG5 HG8 HG9
  go_wp2_with (with_reducible refine st_blk (w0 := w) (base := w.heap.size) rfl 38 (.tmp 10) (.tmp 17) rfl rfl w4.heap.size _ rfl rfl ⟨heap_new _ _⟩ (by kernel_rfl) (by kernel_rfl) (by kernel_rfl) HS4a hz4 ?_)
  intro w5 HE5 HO5 HS5 hs5
  have HN5 := Kp.mk (stored_new HS4.out HS5.out hs5 HO5.out)
  have HG5b := Kp.mk ((HN5.out.block _ (heap_lt HG5a.out)).trans HG5a.out)
  have HG8b := Kp.mk ((HN5.out.block _ (heap_lt HG8a.out)).trans HG8a.out)
  have HG9b := Kp.mk ((HN5.out.block _ (heap_lt HG9a.out)).trans HG9a.out)
  have HC5 := Kp.mk (Kd.C_below HC.out HS5.out)
  clear HG5a HG8a HG9a hs5 HO5
  have d1 := blk_cell HG5b.out 1
  have cp := blk_cell HG5b.out 4
  have yp := blk_frozen HG5b.out 4
  have HP5p := Kp.mk (blk_put HG5b.out 4 (.bool false) (cs' := #[.string (mkB qn), .int .i64 1, .int .i64 qc, .int .u32 tl, .bool false, .int .u8 0, .int .u8 0, .int .u8 0, .int .u8 0, .int .u8 0, .int .u8 0, .int .u8 0, .int .u8 0, .int .u8 0, .int .u8 0, .int .u8 0, .int .u8 0, .int .u8 0, .int .u8 0, .int .u8 0, .int .u8 0, .string ⟨#[]⟩, .slice none 0 0]) rfl)
  have HP8p := Kp.mk ((Below.heap_setCell w5 ⟨w.heap.size, 4, none⟩ (.bool false) (w.heap.size + 1) (by simp)).trans HG8b.out)
  have HP9p := Kp.mk ((Below.heap_setCell w5 ⟨w.heap.size, 4, none⟩ (.bool false) (w.heap.size + 2) (by simp)).trans HG9b.out)
  have HPSp := Kp.mk (HS5.out.setCell (p := ⟨w.heap.size, 4, none⟩) (Nat.le_refl _) (.bool false))
  have HEp := Kp.mk ((Below.heap_setCell w5 ⟨w.heap.size, 4, none⟩ (.bool false) w4.heap.size (by have := hz9; simp; omega)).trans HE5.out)
  go_wp2_with (with_reducible refine ld_mid rfl 26 (.tmp 37) rfl w.heap.size 4 rfl HP5p Tryz.underlying26 rfl [.bool false, .int .u8 0, .int .u8 0, .int .u8 0, .int .u8 0, .int .u8 0, .int .u8 0, .int .u8 0, .int .u8 0, .int .u8 0, .int .u8 0, .int .u8 0, .int .u8 0, .int .u8 0, .int .u8 0, .int .u8 0, .int .u8 0] (by kernel_rfl) rfl ?_)
  refine t_ (rsize_calls ⟨false, fun _ => 0⟩ _) HPSp ?_
  intro w6 HB6 HS6
  have HG5d := Kp.mk ((HB6.out.block _ (heap_lt HP5p.out)).trans HP5p.out)
  have HG8d := Kp.mk ((HB6.out.block _ (heap_lt HP8p.out)).trans HP8p.out)
  have HG9d := Kp.mk ((HB6.out.block _ (heap_lt HP9p.out)).trans HP9p.out)
  have HE6 := Kp.mk ((HB6.out.block _ (heap_lt HEp.out)).trans HEp.out)
  have HC6 := Kp.mk (Kd.C_below HC.out HS6.out)
  have hz6 := heap_lt HG9d.out
  have hz6e := heap_lt HE6.out
  clear d1 cp yp
  have bne : (n != 4) = true := by simpa using hne
  clear hne
  go_wp2_with (fail)
  refine start_ (n := 4) (S := fun w' => w'.heap[w4.heap.size]? = some (.cells #[.int .i64 7, .int .i64 (a - 2), .bool true] 38 (0, 0))) (ds := []) #[false, false, false, false] (by kernel_rfl) rfl rfl (HE6.out) (fun hHeld => ?_)
  refine take_blk (v := .agg #[.int .i64 7, .int .i64 (a - 2), .bool true]) (i := 1) (N := some 43) (a' := ?_) #[false, true, false, false] rfl rfl (by kernel_rfl) (fun _ _ _ h => h) (by rfl) 38 (.tmp 10) rfl (w4.heap.size) (by rfl) #[.int .i64 7, .int .i64 (a - 2), .bool true] rfl (fun _ h => h) Tryz.underlying38 rfl (by kernel_rfl) hHeld ?_ ?_
  rotate_left
  · simp only [Act.put, List.setIfInBounds_toArray, List.set_cons_zero, List.set_cons_succ]
    rfl
  refine pure_ (i := 0) (N := some 42) (v := ?_) (a' := ?_) #[true, true, false, false] rfl rfl (by kernel_rfl) (fun _ _ _ h => h) (Or.inl ⟨by rfl, ?_⟩) ?_ ?_
  rotate_left
  · intro w'
    go_simp
    with_reducible rfl
  rotate_left
  · simp only [Act.put, List.setIfInBounds_toArray, List.set_cons_zero, List.set_cons_succ]
    rfl
  refine one_ (i := 2) (N := none) #[true, true, true, false] rfl rfl (by kernel_rfl) (by decide) (fun K hK => ?_)
  refine st_step (w0 := w) (base := w.heap.size) (by rfl) 28 (.tmp 8) (.tmp 42) rfl rfl (w.heap.size + 1) _ rfl rfl ⟨HG8d.out⟩ (by kernel_rfl) (by kernel_rfl) (by kernel_rfl) ⟨(HS6.out).drew⟩ (Nat.le_succ _) ?_
  intro w8a H8a HO8a HS8a hs8a
  refine hK.out _ _ ((HO8a.out _ (by omega)).trans hHeld) (fun hHeld => ?_)
  clear hK K
  refine one_ (i := 3) (N := none) #[true, true, true, true] rfl rfl (by kernel_rfl) (by decide) (fun K hK => ?_)
  refine st_step (w0 := w) (base := w.heap.size) (by rfl) 38 (.tmp 9) (.tmp 43) rfl rfl (w.heap.size + 2) _ rfl rfl ⟨(HO8a.out _ (by omega)).trans (HG9d.out)⟩ (by kernel_rfl) (by kernel_rfl) (by kernel_rfl) HS8a (by omega) ?_
  intro w8b H9b HO9b HS9b hs9b
  refine hK.out _ _ ((HO9b.out _ (by omega)).trans hHeld) (fun hHeld => ?_)
  clear hK K
  have H8b := Kp.mk ((HO9b.out _ (by omega)).trans H8a.out)
  refine done_ (by kernel_rfl) ?_
  go_wp2
  refine bodyPost_ret (results_cc rfl _ _ (w.heap.size + 1) (w.heap.size + 2) 28 38 _ _ (0, 0) (0, 0) _ _ rfl H8b.out Tryz.underlying28 rfl (by kernel_rfl) rfl H9b.out Tryz.underlying38 rfl (by kernel_rfl)) rfl ?_
  exact ⟨.slice none 0 0, rfl, Kd.R_nil _ _ _ _ _, HS9b.out⟩
theorem rdata_1g (A : Option Addr) (c : Nat) (xs : List Int) (qn : L) (qc tl : Int) (a : Int) (w : World) (h : (Kd.int .u8).C w A xs.length xs) (hc : xs.length ≤ c) (hx : Byts xs) (hl : xs.length ≤ 1000000) (h2 : 2 ≤ a) (han : a + 4 ≤ xs.length) :
    Calls Tryz.prog 47 #[.slice A xs.length c, .agg #[.string (mkB qn), .int .i64 1, .int .i64 qc, .int .u32 tl, .bool false, .int .u8 0, .int .u8 0, .int .u8 0, .int .u8 0, .int .u8 0, .int .u8 0, .int .u8 0, .int .u8 0, .int .u8 0, .int .u8 0, .int .u8 0, .int .u8 0, .int .u8 0, .int .u8 0, .int .u8 0, .int .u8 0, .string ⟨#[]⟩, .slice none 0 0], .int .i64 a, .int .i64 4] w (DataPost (⟨qn, 1, qc, tl, ⟨false, bK xs a.toNat 4⟩, [], []⟩) (.none) w) := by
  have HC := Kp.mk h
  have HX := Kp.mk hx
  have HB1 := Kp.mk ((Below.refl w.heap.size w).alloc (Nat.le_refl _) (.cells #[.string (mkB qn), .int .i64 1, .int .i64 qc, .int .u32 tl, .bool false, .int .u8 0, .int .u8 0, .int .u8 0, .int .u8 0, .int .u8 0, .int .u8 0, .int .u8 0, .int .u8 0, .int .u8 0, .int .u8 0, .int .u8 0, .int .u8 0, .int .u8 0, .int .u8 0, .int .u8 0, .int .u8 0, .string ⟨#[]⟩, .slice none 0 0] 28))
  have HB2 := Kp.mk (HB1.out.alloc HB1.out.size (.cells #[.string ⟨#[]⟩, .int .i64 0, .int .i64 0, .int .u32 0, .bool false, .int .u8 0, .int .u8 0, .int .u8 0, .int .u8 0, .int .u8 0, .int .u8 0, .int .u8 0, .int .u8 0, .int .u8 0, .int .u8 0, .int .u8 0, .int .u8 0, .int .u8 0, .int .u8 0, .int .u8 0, .int .u8 0, .string ⟨#[]⟩, .slice none 0 0] 28))
  have HB3 := Kp.mk (HB2.out.alloc HB2.out.size (.cells #[.int .i64 0, .int .i64 0, .bool false] 38))
  have e1 : w.heap.size + 1 = (w.alloc (.cells #[.string (mkB qn), .int .i64 1, .int .i64 qc, .int .u32 tl, .bool false, .int .u8 0, .int .u8 0, .int .u8 0, .int .u8 0, .int .u8 0, .int .u8 0, .int .u8 0, .int .u8 0, .int .u8 0, .int .u8 0, .int .u8 0, .int .u8 0, .int .u8 0, .int .u8 0, .int .u8 0, .int .u8 0, .string ⟨#[]⟩, .slice none 0 0] 28)).heap.size := by simp
  have e2 : w.heap.size + 2 = ((w.alloc (.cells #[.string (mkB qn), .int .i64 1, .int .i64 qc, .int .u32 tl, .bool false, .int .u8 0, .int .u8 0, .int .u8 0, .int .u8 0, .int .u8 0, .int .u8 0, .int .u8 0, .int .u8 0, .int .u8 0, .int .u8 0, .int .u8 0, .int .u8 0, .int .u8 0, .int .u8 0, .int .u8 0, .int .u8 0, .string ⟨#[]⟩, .slice none 0 0] 28)).alloc (.cells #[.string ⟨#[]⟩, .int .i64 0, .int .i64 0, .int .u32 0, .bool false, .int .u8 0, .int .u8 0, .int .u8 0, .int .u8 0, .int .u8 0, .int .u8 0, .int .u8 0, .int .u8 0, .int .u8 0, .int .u8 0, .int .u8 0, .int .u8 0, .int .u8 0, .int .u8 0, .int .u8 0, .int .u8 0, .string ⟨#[]⟩, .slice none 0 0] 28)).heap.size := by simp
  have g1 := heap_new w (.cells #[.string (mkB qn), .int .i64 1, .int .i64 qc, .int .u32 tl, .bool false, .int .u8 0, .int .u8 0, .int .u8 0, .int .u8 0, .int .u8 0, .int .u8 0, .int .u8 0, .int .u8 0, .int .u8 0, .int .u8 0, .int .u8 0, .int .u8 0, .int .u8 0, .int .u8 0, .int .u8 0, .int .u8 0, .string ⟨#[]⟩, .slice none 0 0] 28)
  have g2 := heap_new (w.alloc (.cells #[.string (mkB qn), .int .i64 1, .int .i64 qc, .int .u32 tl, .bool false, .int .u8 0, .int .u8 0, .int .u8 0, .int .u8 0, .int .u8 0, .int .u8 0, .int .u8 0, .int .u8 0, .int .u8 0, .int .u8 0, .int .u8 0, .int .u8 0, .int .u8 0, .int .u8 0, .int .u8 0, .int .u8 0, .string ⟨#[]⟩, .slice none 0 0] 28)) (.cells #[.string ⟨#[]⟩, .int .i64 0, .int .i64 0, .int .u32 0, .bool false, .int .u8 0, .int .u8 0, .int .u8 0, .int .u8 0, .int .u8 0, .int .u8 0, .int .u8 0, .int .u8 0, .int .u8 0, .int .u8 0, .int .u8 0, .int .u8 0, .int .u8 0, .int .u8 0, .int .u8 0, .int .u8 0, .string ⟨#[]⟩, .slice none 0 0] 28)
  have g3 := heap_new ((w.alloc (.cells #[.string (mkB qn), .int .i64 1, .int .i64 qc, .int .u32 tl, .bool false, .int .u8 0, .int .u8 0, .int .u8 0, .int .u8 0, .int .u8 0, .int .u8 0, .int .u8 0, .int .u8 0, .int .u8 0, .int .u8 0, .int .u8 0, .int .u8 0, .int .u8 0, .int .u8 0, .int .u8 0, .int .u8 0, .string ⟨#[]⟩, .slice none 0 0] 28)).alloc (.cells #[.string ⟨#[]⟩, .int .i64 0, .int .i64 0, .int .u32 0, .bool false, .int .u8 0, .int .u8 0, .int .u8 0, .int .u8 0, .int .u8 0, .int .u8 0, .int .u8 0, .int .u8 0, .int .u8 0, .int .u8 0, .int .u8 0, .int .u8 0, .int .u8 0, .int .u8 0, .int .u8 0, .int .u8 0, .string ⟨#[]⟩, .slice none 0 0] 28)) (.cells #[.int .i64 0, .int .i64 0, .bool false] 38)
  have k2 := (((Below.refl _ _).alloc (Nat.le_refl _) (.cells #[.string ⟨#[]⟩, .int .i64 0, .int .i64 0, .int .u32 0, .bool false, .int .u8 0, .int .u8 0, .int .u8 0, .int .u8 0, .int .u8 0, .int .u8 0, .int .u8 0, .int .u8 0, .int .u8 0, .int .u8 0, .int .u8 0, .int .u8 0, .int .u8 0, .int .u8 0, .int .u8 0, .int .u8 0, .string ⟨#[]⟩, .slice none 0 0] 28)).block _ (heap_lt g1)).trans g1
  have HG5 := Kp.mk ((((Below.refl _ _).alloc (Nat.le_refl _) (.cells #[.int .i64 0, .int .i64 0, .bool false] 38)).block _ (heap_lt k2)).trans k2)
  have k3 := (((Below.refl _ _).alloc (Nat.le_refl _) (.cells #[.int .i64 0, .int .i64 0, .bool false] 38)).block _ (heap_lt g2)).trans g2
  rw [← e1] at k3
  rw [← e2] at g3
  have HG8 := Kp.mk k3
  have HG9 := Kp.mk g3
  clear g1 g2 g3 k2 k3 e1 e2 HB1 HB2 h hx
  have w2 : wrap64 (a - 2) = a - 2 := by unfold wrap64; omega
  go_enter Tryz.func47, Tryz.ntmps47
  go_wp2_with (fail)
  refine (stockadehelp_At.calls 7 (a - 2) 7 (a - 2) true _ rfl).mono ?_
  rintro e w4 ⟨rfl, hb⟩
  have HS4 := Kp.mk (below_step HB3.out hb)
  have HG5a := Kp.mk ((hb.block _ (heap_lt HG5.out)).trans HG5.out)
  have HG8a := Kp.mk ((hb.block _ (heap_lt HG8.out)).trans HG8.out)
  have HG9a := Kp.mk ((hb.block _ (heap_lt HG9.out)).trans HG9.out)
  have HS4a := Kp.mk (HS4.out.alloc HS4.out.size (.cells #[.int .i64 0, .int .i64 0, .bool false] 38))
  have hz4 := HS4.out.size
  have hz9 := heap_lt HG9a.out
  clear hb HG5 HG8 HG9
  go_wp2_with (with_reducible refine st_blk (w0 := w) (base := w.heap.size) rfl 38 (.tmp 10) (.tmp 17) rfl rfl w4.heap.size _ rfl rfl ⟨heap_new _ _⟩ (by kernel_rfl) (by kernel_rfl) (by kernel_rfl) HS4a hz4 ?_)
  intro w5 HE5 HO5 HS5 hs5
  have HN5 := Kp.mk (stored_new HS4.out HS5.out hs5 HO5.out)
  have HG5b := Kp.mk ((HN5.out.block _ (heap_lt HG5a.out)).trans HG5a.out)
  have HG8b := Kp.mk ((HN5.out.block _ (heap_lt HG8a.out)).trans HG8a.out)
  have HG9b := Kp.mk ((HN5.out.block _ (heap_lt HG9a.out)).trans HG9a.out)
  have HC5 := Kp.mk (Kd.C_below HC.out HS5.out)
  clear HG5a HG8a HG9a hs5 HO5
  have d1 := blk_cell HG5b.out 1
  obtain ⟨ai, rfl⟩ := Int.eq_ofNat_of_zero_le (show 0 ≤ a by omega)
  have cp := blk_cell HG5b.out 4
  have yp := blk_frozen HG5b.out 4
  have HP5p := Kp.mk (blk_put HG5b.out 4 (.bool false) (cs' := #[.string (mkB qn), .int .i64 1, .int .i64 qc, .int .u32 tl, .bool false, .int .u8 0, .int .u8 0, .int .u8 0, .int .u8 0, .int .u8 0, .int .u8 0, .int .u8 0, .int .u8 0, .int .u8 0, .int .u8 0, .int .u8 0, .int .u8 0, .int .u8 0, .int .u8 0, .int .u8 0, .int .u8 0, .string ⟨#[]⟩, .slice none 0 0]) rfl)
  have HP8p := Kp.mk ((Below.heap_setCell w5 ⟨w.heap.size, 4, none⟩ (.bool false) (w.heap.size + 1) (by simp)).trans HG8b.out)
  have HP9p := Kp.mk ((Below.heap_setCell w5 ⟨w.heap.size, 4, none⟩ (.bool false) (w.heap.size + 2) (by simp)).trans HG9b.out)
  have HPSp := Kp.mk (HS5.out.setCell (p := ⟨w.heap.size, 4, none⟩) (Nat.le_refl _) (.bool false))
  have HEp := Kp.mk ((Below.heap_setCell w5 ⟨w.heap.size, 4, none⟩ (.bool false) w4.heap.size (by have := hz9; simp; omega)).trans HE5.out)
  go_wp2_with (with_reducible refine ld_mid rfl 26 (.tmp 37) rfl w.heap.size 4 rfl HP5p Tryz.underlying26 rfl [.bool false, .int .u8 0, .int .u8 0, .int .u8 0, .int .u8 0, .int .u8 0, .int .u8 0, .int .u8 0, .int .u8 0, .int .u8 0, .int .u8 0, .int .u8 0, .int .u8 0, .int .u8 0, .int .u8 0, .int .u8 0, .int .u8 0] (by kernel_rfl) rfl ?_)
  refine t_ (rsize_calls ⟨false, fun _ => 0⟩ _) HPSp ?_
  intro w6 HB6 HS6
  have HG5d := Kp.mk ((HB6.out.block _ (heap_lt HP5p.out)).trans HP5p.out)
  have HG8d := Kp.mk ((HB6.out.block _ (heap_lt HP8p.out)).trans HP8p.out)
  have HG9d := Kp.mk ((HB6.out.block _ (heap_lt HP9p.out)).trans HP9p.out)
  have HE6 := Kp.mk ((HB6.out.block _ (heap_lt HEp.out)).trans HEp.out)
  have HC6 := Kp.mk (Kd.C_below HC.out HS6.out)
  have hz6 := heap_lt HG9d.out
  have hz6e := heap_lt HE6.out
  clear d1 cp yp
  go_wp2_with (fail)
  go_loopw [11] (fun i wr => ∃ k : Nat, k ≤ 4 ∧ i = .int .i64 k ∧ Kp (wr.heap[w.heap.size]? = some (.cells #[.string (mkB qn), .int .i64 1, .int .i64 qc, .int .u32 tl, .bool false, .int .u8 (bK xs ai (k) 0), .int .u8 (bK xs ai (k) 1), .int .u8 (bK xs ai (k) 2), .int .u8 (bK xs ai (k) 3), .int .u8 (bK xs ai (k) 4), .int .u8 (bK xs ai (k) 5), .int .u8 (bK xs ai (k) 6), .int .u8 (bK xs ai (k) 7), .int .u8 (bK xs ai (k) 8), .int .u8 (bK xs ai (k) 9), .int .u8 (bK xs ai (k) 10), .int .u8 (bK xs ai (k) 11), .int .u8 (bK xs ai (k) 12), .int .u8 (bK xs ai (k) 13), .int .u8 (bK xs ai (k) 14), .int .u8 (bK xs ai (k) 15), .string ⟨#[]⟩, .slice none 0 0] 28 (0, 0))) ∧ Kp (Below w.heap.size w wr) ∧ Kp (∀ j, j ≠ w.heap.size → wr.heap[j]? = w6.heap[j]?)) (fun i _ => 4 - (intOf i).toNat)
  case atStart => exact ⟨0, by decide, rfl, HG5d, HS6, ⟨fun _ _ => rfl⟩⟩
  case round =>
    obtain ⟨k, hk, rfl, HG, HW, HJ⟩ := hrel
    by_cases hlt : k < 4
    · have b1 : decide ((k : Int) < 4) = true := by simp; omega
      have i0 : (0 : Int) ≤ (k : Int) := by omega
      have i1 : (k : Int) < 16 := by omega
      have hlx : ai + k < xs.length := by omega
      have wk : wrap64 ((ai : Int) + (k : Int)) = (ai : Int) + (k : Int) := by unfold wrap64; omega
      obtain ⟨ad, rfl, hcell⟩ := at_nat (Kd.C_below HC.out HW.out) (ai + k) (by omega)
      obtain ⟨x, hx2⟩ : ∃ x, xs.getD (ai + k) 0 = x := ⟨_, rfl⟩
      rw [hx2] at hcell
      have dk := (blk_cell HG.out (5 + k)).trans (rec_cell _ _ _ _ _ _ _ (bK xs ai k) k (by omega))
      have yk := blk_frozen HG.out (5 + k)
      have hput := blk_put HG.out (5 + k) (.int .u8 x) (cs' := #[.string (mkB qn), .int .i64 1, .int .i64 qc, .int .u32 tl, .bool false, .int .u8 (bK xs ai (k + 1) 0), .int .u8 (bK xs ai (k + 1) 1), .int .u8 (bK xs ai (k + 1) 2), .int .u8 (bK xs ai (k + 1) 3), .int .u8 (bK xs ai (k + 1) 4), .int .u8 (bK xs ai (k + 1) 5), .int .u8 (bK xs ai (k + 1) 6), .int .u8 (bK xs ai (k + 1) 7), .int .u8 (bK xs ai (k + 1) 8), .int .u8 (bK xs ai (k + 1) 9), .int .u8 (bK xs ai (k + 1) 10), .int .u8 (bK xs ai (k + 1) 11), .int .u8 (bK xs ai (k + 1) 12), .int .u8 (bK xs ai (k + 1) 13), .int .u8 (bK xs ai (k + 1) 14), .int .u8 (bK xs ai (k + 1) 15), .string ⟨#[]⟩, .slice none 0 0]) (rec_put _ _ _ _ _ _ _ (bK xs ai k) (bK xs ai (k + 1)) x k (by omega) (fun i => by rw [bK_step, hx2]))
      have HP := Kp.mk hput
      have HWn := Kp.mk (HW.out.setCell (p := ⟨w.heap.size, 5 + k, none⟩) (Nat.le_refl _) (.int .u8 x))
      have HJn : Kp (∀ j, j ≠ w.heap.size → (wr.setCell ⟨w.heap.size, 5 + k, none⟩ (.int .u8 x)).heap[j]? = w6.heap[j]?) := ⟨fun j hj => (Below.heap_setCell wr ⟨w.heap.size, 5 + k, none⟩ (.int .u8 x) j hj).trans (HJ.out j hj)⟩
      have m0 : (0 : Int) ≤ (ai : Int) + (k : Int) := by omega
      have m1 : (ai : Int) + (k : Int) < (xs.length : Int) := by omega
      have HME : Kp (k + 1 ≤ 4 ∧ 4 - (k + 1) < 4 - k) := ⟨by omega⟩
      clear hput hx2
      go_wp2
      refine ⟨⟨k + 1, HME.out.1, by go_num, HP, HWn, HJn⟩, ?_⟩
      have hi1 : (intOf (Value.int .i64 ((k : Int) + 1))).toNat = k + 1 := by simp [intOf] <;> omega
      have hi2 : (intOf (Value.int .i64 (k : Int))).toNat = k := by simp [intOf]
      rw [hi1, hi2]
      exact HME.out.2
    · obtain rfl : k = 4 := by omega
      have HG8r := Kp.mk ((HJ.out (w.heap.size + 1) (by omega)).trans HG8d.out)
      have HG9r := Kp.mk ((HJ.out (w.heap.size + 2) (by omega)).trans HG9d.out)
      go_wp2_with (first | (with_reducible refine ld_blk rfl 28 (.tmp 5) rfl w.heap.size rfl HG Tryz.underlying28 rfl (by kernel_rfl) ?_) | (with_reducible refine st_blk (w0 := w) (base := w.heap.size) rfl 28 (.tmp 8) (.tmp 82) rfl rfl (w.heap.size + 1) _ rfl rfl HG8r (by kernel_rfl) (by kernel_rfl) (by kernel_rfl) HW (Nat.le_succ _) ?_))
      intro w20 H20 HO20 HS20 hs20
      have HG9z := Kp.mk ((HO20.out _ (by omega)).trans HG9r.out)
      go_wp2_with (with_reducible refine st_blk (w0 := w) (base := w.heap.size) rfl 38 (.tmp 9) (.tmp 83) rfl rfl (w.heap.size + 2) _ rfl rfl HG9z (by kernel_rfl) (by kernel_rfl) (by kernel_rfl) HS20 (by omega) ?_)
      intro w21 H21 HO21 HS21 hs21
      have H20b := Kp.mk ((HO21.out _ (by omega)).trans H20.out)
      go_wp2
      refine bodyPost_ret (results_cc rfl _ _ (w.heap.size + 1) (w.heap.size + 2) 28 38 _ _ (0, 0) (0, 0) _ _ rfl H20b.out Tryz.underlying28 rfl (by kernel_rfl) rfl H21.out Tryz.underlying38 rfl (by kernel_rfl)) rfl ?_
      exact ⟨.slice none 0 0, rfl, Kd.R_nil _ _ _ _ _, HS21.out⟩
theorem rdata_28b (A : Option Addr) (c : Nat) (xs : List Int) (qn : L) (qc tl : Int) (a n : Int) (w : World) (h : (Kd.int .u8).C w A xs.length xs) (hc : xs.length ≤ c) (hx : Byts xs) (hl : xs.length ≤ 1000000) (h0 : 0 ≤ n) (h2 : 2 ≤ a) (han : a + n ≤ xs.length) (hne : n ≠ 16) :
    Calls Tryz.prog 47 #[.slice A xs.length c, .agg #[.string (mkB qn), .int .i64 28, .int .i64 qc, .int .u32 tl, .bool false, .int .u8 0, .int .u8 0, .int .u8 0, .int .u8 0, .int .u8 0, .int .u8 0, .int .u8 0, .int .u8 0, .int .u8 0, .int .u8 0, .int .u8 0, .int .u8 0, .int .u8 0, .int .u8 0, .int .u8 0, .int .u8 0, .string ⟨#[]⟩, .slice none 0 0], .int .i64 a, .int .i64 n] w (DataPost (Rec.zero) (.fault (a - 2) 7) w) := by
  have HC := Kp.mk h
  have HX := Kp.mk hx
  have HB1 := Kp.mk ((Below.refl w.heap.size w).alloc (Nat.le_refl _) (.cells #[.string (mkB qn), .int .i64 28, .int .i64 qc, .int .u32 tl, .bool false, .int .u8 0, .int .u8 0, .int .u8 0, .int .u8 0, .int .u8 0, .int .u8 0, .int .u8 0, .int .u8 0, .int .u8 0, .int .u8 0, .int .u8 0, .int .u8 0, .int .u8 0, .int .u8 0, .int .u8 0, .int .u8 0, .string ⟨#[]⟩, .slice none 0 0] 28))
  have HB2 := Kp.mk (HB1.out.alloc HB1.out.size (.cells #[.string ⟨#[]⟩, .int .i64 0, .int .i64 0, .int .u32 0, .bool false, .int .u8 0, .int .u8 0, .int .u8 0, .int .u8 0, .int .u8 0, .int .u8 0, .int .u8 0, .int .u8 0, .int .u8 0, .int .u8 0, .int .u8 0, .int .u8 0, .int .u8 0, .int .u8 0, .int .u8 0, .int .u8 0, .string ⟨#[]⟩, .slice none 0 0] 28))
  have HB3 := Kp.mk (HB2.out.alloc HB2.out.size (.cells #[.int .i64 0, .int .i64 0, .bool false] 38))
  have e1 : w.heap.size + 1 = (w.alloc (.cells #[.string (mkB qn), .int .i64 28, .int .i64 qc, .int .u32 tl, .bool false, .int .u8 0, .int .u8 0, .int .u8 0, .int .u8 0, .int .u8 0, .int .u8 0, .int .u8 0, .int .u8 0, .int .u8 0, .int .u8 0, .int .u8 0, .int .u8 0, .int .u8 0, .int .u8 0, .int .u8 0, .int .u8 0, .string ⟨#[]⟩, .slice none 0 0] 28)).heap.size := by simp
  have e2 : w.heap.size + 2 = ((w.alloc (.cells #[.string (mkB qn), .int .i64 28, .int .i64 qc, .int .u32 tl, .bool false, .int .u8 0, .int .u8 0, .int .u8 0, .int .u8 0, .int .u8 0, .int .u8 0, .int .u8 0, .int .u8 0, .int .u8 0, .int .u8 0, .int .u8 0, .int .u8 0, .int .u8 0, .int .u8 0, .int .u8 0, .int .u8 0, .string ⟨#[]⟩, .slice none 0 0] 28)).alloc (.cells #[.string ⟨#[]⟩, .int .i64 0, .int .i64 0, .int .u32 0, .bool false, .int .u8 0, .int .u8 0, .int .u8 0, .int .u8 0, .int .u8 0, .int .u8 0, .int .u8 0, .int .u8 0, .int .u8 0, .int .u8 0, .int .u8 0, .int .u8 0, .int .u8 0, .int .u8 0, .int .u8 0, .int .u8 0, .string ⟨#[]⟩, .slice none 0 0] 28)).heap.size := by simp
  have g1 := heap_new w (.cells #[.string (mkB qn), .int .i64 28, .int .i64 qc, .int .u32 tl, .bool false, .int .u8 0, .int .u8 0, .int .u8 0, .int .u8 0, .int .u8 0, .int .u8 0, .int .u8 0, .int .u8 0, .int .u8 0, .int .u8 0, .int .u8 0, .int .u8 0, .int .u8 0, .int .u8 0, .int .u8 0, .int .u8 0, .string ⟨#[]⟩, .slice none 0 0] 28)
  have g2 := heap_new (w.alloc (.cells #[.string (mkB qn), .int .i64 28, .int .i64 qc, .int .u32 tl, .bool false, .int .u8 0, .int .u8 0, .int .u8 0, .int .u8 0, .int .u8 0, .int .u8 0, .int .u8 0, .int .u8 0, .int .u8 0, .int .u8 0, .int .u8 0, .int .u8 0, .int .u8 0, .int .u8 0, .int .u8 0, .int .u8 0, .string ⟨#[]⟩, .slice none 0 0] 28)) (.cells #[.string ⟨#[]⟩, .int .i64 0, .int .i64 0, .int .u32 0, .bool false, .int .u8 0, .int .u8 0, .int .u8 0, .int .u8 0, .int .u8 0, .int .u8 0, .int .u8 0, .int .u8 0, .int .u8 0, .int .u8 0, .int .u8 0, .int .u8 0, .int .u8 0, .int .u8 0, .int .u8 0, .int .u8 0, .string ⟨#[]⟩, .slice none 0 0] 28)
  have g3 := heap_new ((w.alloc (.cells #[.string (mkB qn), .int .i64 28, .int .i64 qc, .int .u32 tl, .bool false, .int .u8 0, .int .u8 0, .int .u8 0, .int .u8 0, .int .u8 0, .int .u8 0, .int .u8 0, .int .u8 0, .int .u8 0, .int .u8 0, .int .u8 0, .int .u8 0, .int .u8 0, .int .u8 0, .int .u8 0, .int .u8 0, .string ⟨#[]⟩, .slice none 0 0] 28)).alloc (.cells #[.string ⟨#[]⟩, .int .i64 0, .int .i64 0, .int .u32 0, .bool false, .int .u8 0, .int .u8 0, .int .u8 0, .int .u8 0, .int .u8 0, .int .u8 0, .int .u8 0, .int .u8 0, .int .u8 0, .int .u8 0, .int .u8 0, .int .u8 0, .int .u8 0, .int .u8 0, .int .u8 0, .int .u8 0, .string ⟨#[]⟩, .slice none 0 0] 28)) (.cells #[.int .i64 0, .int .i64 0, .bool false] 38)
  have k2 := (((Below.refl _ _).alloc (Nat.le_refl _) (.cells #[.string ⟨#[]⟩, .int .i64 0, .int .i64 0, .int .u32 0, .bool false, .int .u8 0, .int .u8 0, .int .u8 0, .int .u8 0, .int .u8 0, .int .u8 0, .int .u8 0, .int .u8 0, .int .u8 0, .int .u8 0, .int .u8 0, .int .u8 0, .int .u8 0, .int .u8 0, .int .u8 0, .int .u8 0, .string ⟨#[]⟩, .slice none 0 0] 28)).block _ (heap_lt g1)).trans g1
  have HG5 := Kp.mk ((((Below.refl _ _).alloc (Nat.le_refl _) (.cells #[.int .i64 0, .int .i64 0, .bool false] 38)).block _ (heap_lt k2)).trans k2)
  have k3 := (((Below.refl _ _).alloc (Nat.le_refl _) (.cells #[.int .i64 0, .int .i64 0, .bool false] 38)).block _ (heap_lt g2)).trans g2
  rw [← e1] at k3
  rw [← e2] at g3
  have HG8 := Kp.mk k3
  have HG9 := Kp.mk g3
  clear g1 g2 g3 k2 k3 e1 e2 HB1 HB2 h hx
  have w2 : wrap64 (a - 2) = a - 2 := by unfold wrap64; omega
  go_enter Tryz.func47, Tryz.ntmps47
  go_wp2_with (fail)
  refine (stockadehelp_At.calls 7 (a - 2) 7 (a - 2) true _ rfl).mono ?_
  rintro e w4 ⟨rfl, hb⟩
  have HS4 := Kp.mk (below_step HB3.out hb)
  have HG5a := Kp.mk ((hb.block _ (heap_lt HG5.out)).trans HG5.out)
  have HG8a := Kp.mk ((hb.block _ (heap_lt HG8.out)).trans HG8.out)
  have HG9a := Kp.mk ((hb.block _ (heap_lt HG9.out)).trans HG9.out)
  have HS4a := Kp.mk (HS4.out.alloc HS4.out.size (.cells #[.int .i64 0, .int .i64 0, .bool false] 38))
  have hz4 := HS4.out.size
  have hz9 := heap_lt HG9a.out
  clear hb HG5 HG8 HG9
  go_wp2_with (with_reducible refine st_blk (w0 := w) (base := w.heap.size) rfl 38 (.tmp 10) (.tmp 17) rfl rfl w4.heap.size _ rfl rfl ⟨heap_new _ _⟩ (by kernel_rfl) (by kernel_rfl) (by kernel_rfl) HS4a hz4 ?_)
  intro w5 HE5 HO5 HS5 hs5
  have HN5 := Kp.mk (stored_new HS4.out HS5.out hs5 HO5.out)
  have HG5b := Kp.mk ((HN5.out.block _ (heap_lt HG5a.out)).trans HG5a.out)
  have HG8b := Kp.mk ((HN5.out.block _ (heap_lt HG8a.out)).trans HG8a.out)
  have HG9b := Kp.mk ((HN5.out.block _ (heap_lt HG9a.out)).trans HG9a.out)
  have HC5 := Kp.mk (Kd.C_below HC.out HS5.out)
  clear HG5a HG8a HG9a hs5 HO5
  have d1 := blk_cell HG5b.out 1
  have cp := blk_cell HG5b.out 4
  have yp := blk_frozen HG5b.out 4
  have HP5p := Kp.mk (blk_put HG5b.out 4 (.bool true) (cs' := #[.string (mkB qn), .int .i64 28, .int .i64 qc, .int .u32 tl, .bool true, .int .u8 0, .int .u8 0, .int .u8 0, .int .u8 0, .int .u8 0, .int .u8 0, .int .u8 0, .int .u8 0, .int .u8 0, .int .u8 0, .int .u8 0, .int .u8 0, .int .u8 0, .int .u8 0, .int .u8 0, .int .u8 0, .string ⟨#[]⟩, .slice none 0 0]) rfl)
  have HP8p := Kp.mk ((Below.heap_setCell w5 ⟨w.heap.size, 4, none⟩ (.bool true) (w.heap.size + 1) (by simp)).trans HG8b.out)
  have HP9p := Kp.mk ((Below.heap_setCell w5 ⟨w.heap.size, 4, none⟩ (.bool true) (w.heap.size + 2) (by simp)).trans HG9b.out)
  have HPSp := Kp.mk (HS5.out.setCell (p := ⟨w.heap.size, 4, none⟩) (Nat.le_refl _) (.bool true))
  have HEp := Kp.mk ((Below.heap_setCell w5 ⟨w.heap.size, 4, none⟩ (.bool true) w4.heap.size (by have := hz9; simp; omega)).trans HE5.out)
  go_wp2_with (with_reducible refine ld_mid rfl 26 (.tmp 37) rfl w.heap.size 4 rfl HP5p Tryz.underlying26 rfl [.bool true, .int .u8 0, .int .u8 0, .int .u8 0, .int .u8 0, .int .u8 0, .int .u8 0, .int .u8 0, .int .u8 0, .int .u8 0, .int .u8 0, .int .u8 0, .int .u8 0, .int .u8 0, .int .u8 0, .int .u8 0, .int .u8 0] (by kernel_rfl) rfl ?_)
  refine t_ (rsize_calls ⟨true, fun _ => 0⟩ _) HPSp ?_
  intro w6 HB6 HS6
  have HG5d := Kp.mk ((HB6.out.block _ (heap_lt HP5p.out)).trans HP5p.out)
  have HG8d := Kp.mk ((HB6.out.block _ (heap_lt HP8p.out)).trans HP8p.out)
  have HG9d := Kp.mk ((HB6.out.block _ (heap_lt HP9p.out)).trans HP9p.out)
  have HE6 := Kp.mk ((HB6.out.block _ (heap_lt HEp.out)).trans HEp.out)
  have HC6 := Kp.mk (Kd.C_below HC.out HS6.out)
  have hz6 := heap_lt HG9d.out
  have hz6e := heap_lt HE6.out
  clear d1 cp yp
  have bne : (n != 16) = true := by simpa using hne
  clear hne
  go_wp2_with (fail)
  refine start_ (n := 4) (S := fun w' => w'.heap[w4.heap.size]? = some (.cells #[.int .i64 7, .int .i64 (a - 2), .bool true] 38 (0, 0))) (ds := []) #[false, false, false, false] (by kernel_rfl) rfl rfl (HE6.out) (fun hHeld => ?_)
  refine take_blk (v := .agg #[.int .i64 7, .int .i64 (a - 2), .bool true]) (i := 1) (N := some 43) (a' := ?_) #[false, true, false, false] rfl rfl (by kernel_rfl) (fun _ _ _ h => h) (by rfl) 38 (.tmp 10) rfl (w4.heap.size) (by rfl) #[.int .i64 7, .int .i64 (a - 2), .bool true] rfl (fun _ h => h) Tryz.underlying38 rfl (by kernel_rfl) hHeld ?_ ?_
  rotate_left
  · simp only [Act.put, List.setIfInBounds_toArray, List.set_cons_zero, List.set_cons_succ]
    rfl
  refine pure_ (i := 0) (N := some 42) (v := ?_) (a' := ?_) #[true, true, false, false] rfl rfl (by kernel_rfl) (fun _ _ _ h => h) (Or.inl ⟨by rfl, ?_⟩) ?_ ?_
  rotate_left
  · intro w'
    go_simp
    with_reducible rfl
  rotate_left
  · simp only [Act.put, List.setIfInBounds_toArray, List.set_cons_zero, List.set_cons_succ]
    rfl
  refine one_ (i := 2) (N := none) #[true, true, true, false] rfl rfl (by kernel_rfl) (by decide) (fun K hK => ?_)
  refine st_step (w0 := w) (base := w.heap.size) (by rfl) 28 (.tmp 8) (.tmp 42) rfl rfl (w.heap.size + 1) _ rfl rfl ⟨HG8d.out⟩ (by kernel_rfl) (by kernel_rfl) (by kernel_rfl) ⟨(HS6.out).drew⟩ (Nat.le_succ _) ?_
  intro w8a H8a HO8a HS8a hs8a
  refine hK.out _ _ ((HO8a.out _ (by omega)).trans hHeld) (fun hHeld => ?_)
  clear hK K
  refine one_ (i := 3) (N := none) #[true, true, true, true] rfl rfl (by kernel_rfl) (by decide) (fun K hK => ?_)
  refine st_step (w0 := w) (base := w.heap.size) (by rfl) 38 (.tmp 9) (.tmp 43) rfl rfl (w.heap.size + 2) _ rfl rfl ⟨(HO8a.out _ (by omega)).trans (HG9d.out)⟩ (by kernel_rfl) (by kernel_rfl) (by kernel_rfl) HS8a (by omega) ?_
  intro w8b H9b HO9b HS9b hs9b
  refine hK.out _ _ ((HO9b.out _ (by omega)).trans hHeld) (fun hHeld => ?_)
  clear hK K
  have H8b := Kp.mk ((HO9b.out _ (by omega)).trans H8a.out)
  refine done_ (by kernel_rfl) ?_
  go_wp2
  refine bodyPost_ret (results_cc rfl _ _ (w.heap.size + 1) (w.heap.size + 2) 28 38 _ _ (0, 0) (0, 0) _ _ rfl H8b.out Tryz.underlying28 rfl (by kernel_rfl) rfl H9b.out Tryz.underlying38 rfl (by kernel_rfl)) rfl ?_
  exact ⟨.slice none 0 0, rfl, Kd.R_nil _ _ _ _ _, HS9b.out⟩
theorem rdata_28g (A : Option Addr) (c : Nat) (xs : List Int) (qn : L) (qc tl : Int) (a : Int) (w : World) (h : (Kd.int .u8).C w A xs.length xs) (hc : xs.length ≤ c) (hx : Byts xs) (hl : xs.length ≤ 1000000) (h2 : 2 ≤ a) (han : a + 16 ≤ xs.length) :
    Calls Tryz.prog 47 #[.slice A xs.length c, .agg #[.string (mkB qn), .int .i64 28, .int .i64 qc, .int .u32 tl, .bool false, .int .u8 0, .int .u8 0, .int .u8 0, .int .u8 0, .int .u8 0, .int .u8 0, .int .u8 0, .int .u8 0, .int .u8 0, .int .u8 0, .int .u8 0, .int .u8 0, .int .u8 0, .int .u8 0, .int .u8 0, .int .u8 0, .string ⟨#[]⟩, .slice none 0 0], .int .i64 a, .int .i64 16] w (DataPost (⟨qn, 28, qc, tl, ⟨true, bK xs a.toNat 16⟩, [], []⟩) (.none) w) := by
  have HC := Kp.mk h
  have HX := Kp.mk hx
  have HB1 := Kp.mk ((Below.refl w.heap.size w).alloc (Nat.le_refl _) (.cells #[.string (mkB qn), .int .i64 28, .int .i64 qc, .int .u32 tl, .bool false, .int .u8 0, .int .u8 0, .int .u8 0, .int .u8 0, .int .u8 0, .int .u8 0, .int .u8 0, .int .u8 0, .int .u8 0, .int .u8 0, .int .u8 0, .int .u8 0, .int .u8 0, .int .u8 0, .int .u8 0, .int .u8 0, .string ⟨#[]⟩, .slice none 0 0] 28))
  have HB2 := Kp.mk (HB1.out.alloc HB1.out.size (.cells #[.string ⟨#[]⟩, .int .i64 0, .int .i64 0, .int .u32 0, .bool false, .int .u8 0, .int .u8 0, .int .u8 0, .int .u8 0, .int .u8 0, .int .u8 0, .int .u8 0, .int .u8 0, .int .u8 0, .int .u8 0, .int .u8 0, .int .u8 0, .int .u8 0, .int .u8 0, .int .u8 0, .int .u8 0, .string ⟨#[]⟩, .slice none 0 0] 28))
  have HB3 := Kp.mk (HB2.out.alloc HB2.out.size (.cells #[.int .i64 0, .int .i64 0, .bool false] 38))
  have e1 : w.heap.size + 1 = (w.alloc (.cells #[.string (mkB qn), .int .i64 28, .int .i64 qc, .int .u32 tl, .bool false, .int .u8 0, .int .u8 0, .int .u8 0, .int .u8 0, .int .u8 0, .int .u8 0, .int .u8 0, .int .u8 0, .int .u8 0, .int .u8 0, .int .u8 0, .int .u8 0, .int .u8 0, .int .u8 0, .int .u8 0, .int .u8 0, .string ⟨#[]⟩, .slice none 0 0] 28)).heap.size := by simp
  have e2 : w.heap.size + 2 = ((w.alloc (.cells #[.string (mkB qn), .int .i64 28, .int .i64 qc, .int .u32 tl, .bool false, .int .u8 0, .int .u8 0, .int .u8 0, .int .u8 0, .int .u8 0, .int .u8 0, .int .u8 0, .int .u8 0, .int .u8 0, .int .u8 0, .int .u8 0, .int .u8 0, .int .u8 0, .int .u8 0, .int .u8 0, .int .u8 0, .string ⟨#[]⟩, .slice none 0 0] 28)).alloc (.cells #[.string ⟨#[]⟩, .int .i64 0, .int .i64 0, .int .u32 0, .bool false, .int .u8 0, .int .u8 0, .int .u8 0, .int .u8 0, .int .u8 0, .int .u8 0, .int .u8 0, .int .u8 0, .int .u8 0, .int .u8 0, .int .u8 0, .int .u8 0, .int .u8 0, .int .u8 0, .int .u8 0, .int .u8 0, .string ⟨#[]⟩, .slice none 0 0] 28)).heap.size := by simp
  have g1 := heap_new w (.cells #[.string (mkB qn), .int .i64 28, .int .i64 qc, .int .u32 tl, .bool false, .int .u8 0, .int .u8 0, .int .u8 0, .int .u8 0, .int .u8 0, .int .u8 0, .int .u8 0, .int .u8 0, .int .u8 0, .int .u8 0, .int .u8 0, .int .u8 0, .int .u8 0, .int .u8 0, .int .u8 0, .int .u8 0, .string ⟨#[]⟩, .slice none 0 0] 28)
  have g2 := heap_new (w.alloc (.cells #[.string (mkB qn), .int .i64 28, .int .i64 qc, .int .u32 tl, .bool false, .int .u8 0, .int .u8 0, .int .u8 0, .int .u8 0, .int .u8 0, .int .u8 0, .int .u8 0, .int .u8 0, .int .u8 0, .int .u8 0, .int .u8 0, .int .u8 0, .int .u8 0, .int .u8 0, .int .u8 0, .int .u8 0, .string ⟨#[]⟩, .slice none 0 0] 28)) (.cells #[.string ⟨#[]⟩, .int .i64 0, .int .i64 0, .int .u32 0, .bool false, .int .u8 0, .int .u8 0, .int .u8 0, .int .u8 0, .int .u8 0, .int .u8 0, .int .u8 0, .int .u8 0, .int .u8 0, .int .u8 0, .int .u8 0, .int .u8 0, .int .u8 0, .int .u8 0, .int .u8 0, .int .u8 0, .string ⟨#[]⟩, .slice none 0 0] 28)
  have g3 := heap_new ((w.alloc (.cells #[.string (mkB qn), .int .i64 28, .int .i64 qc, .int .u32 tl, .bool false, .int .u8 0, .int .u8 0, .int .u8 0, .int .u8 0, .int .u8 0, .int .u8 0, .int .u8 0, .int .u8 0, .int .u8 0, .int .u8 0, .int .u8 0, .int .u8 0, .int .u8 0, .int .u8 0, .int .u8 0, .int .u8 0, .string ⟨#[]⟩, .slice none 0 0] 28)).alloc (.cells #[.string ⟨#[]⟩, .int .i64 0, .int .i64 0, .int .u32 0, .bool false, .int .u8 0, .int .u8 0, .int .u8 0, .int .u8 0, .int .u8 0, .int .u8 0, .int .u8 0, .int .u8 0, .int .u8 0, .int .u8 0, .int .u8 0, .int .u8 0, .int .u8 0, .int .u8 0, .int .u8 0, .int .u8 0, .string ⟨#[]⟩, .slice none 0 0] 28)) (.cells #[.int .i64 0, .int .i64 0, .bool false] 38)
  have k2 := (((Below.refl _ _).alloc (Nat.le_refl _) (.cells #[.string ⟨#[]⟩, .int .i64 0, .int .i64 0, .int .u32 0, .bool false, .int .u8 0, .int .u8 0, .int .u8 0, .int .u8 0, .int .u8 0, .int .u8 0, .int .u8 0, .int .u8 0, .int .u8 0, .int .u8 0, .int .u8 0, .int .u8 0, .int .u8 0, .int .u8 0, .int .u8 0, .int .u8 0, .string ⟨#[]⟩, .slice none 0 0] 28)).block _ (heap_lt g1)).trans g1
  have HG5 := Kp.mk ((((Below.refl _ _).alloc (Nat.le_refl _) (.cells #[.int .i64 0, .int .i64 0, .bool false] 38)).block _ (heap_lt k2)).trans k2)
  have k3 := (((Below.refl _ _).alloc (Nat.le_refl _) (.cells #[.int .i64 0, .int .i64 0, .bool false] 38)).block _ (heap_lt g2)).trans g2
  rw [← e1] at k3
  rw [← e2] at g3
  have HG8 := Kp.mk k3
  have HG9 := Kp.mk g3
  clear g1 g2 g3 k2 k3 e1 e2 HB1 HB2 h hx
  have w2 : wrap64 (a - 2) = a - 2 := by unfold wrap64; omega
  go_enter Tryz.func47, Tryz.ntmps47
  go_wp2_with (fail)
  refine (stockadehelp_At.calls 7 (a - 2) 7 (a - 2) true _ rfl).mono ?_
  rintro e w4 ⟨rfl, hb⟩
  have HS4 := Kp.mk (below_step HB3.out hb)
  have HG5a := Kp.mk ((hb.block _ (heap_lt HG5.out)).trans HG5.out)
  have HG8a := Kp.mk ((hb.block _ (heap_lt HG8.out)).trans HG8.out)
  have HG9a := Kp.mk ((hb.block _ (heap_lt HG9.out)).trans HG9.out)
  have HS4a := Kp.mk (HS4.out.alloc HS4.out.size (.cells #[.int .i64 0, .int .i64 0, .bool false] 38))
  have hz4 := HS4.out.size
  have hz9 := heap_lt HG9a.out
  clear hb HG5 HG8 HG9
  go_wp2_with (with_reducible refine st_blk (w0 := w) (base := w.heap.size) rfl 38 (.tmp 10) (.tmp 17) rfl rfl w4.heap.size _ rfl rfl ⟨heap_new _ _⟩ (by kernel_rfl) (by kernel_rfl) (by kernel_rfl) HS4a hz4 ?_)
  intro w5 HE5 HO5 HS5 hs5
  have HN5 := Kp.mk (stored_new HS4.out HS5.out hs5 HO5.out)
  have HG5b := Kp.mk ((HN5.out.block _ (heap_lt HG5a.out)).trans HG5a.out)
  have HG8b := Kp.mk ((HN5.out.block _ (heap_lt HG8a.out)).trans HG8a.out)
  have HG9b := Kp.mk ((HN5.out.block _ (heap_lt HG9a.out)).trans HG9a.out)
  have HC5 := Kp.mk (Kd.C_below HC.out HS5.out)
  clear HG5a HG8a HG9a hs5 HO5
  have d1 := blk_cell HG5b.out 1
  obtain ⟨ai, rfl⟩ := Int.eq_ofNat_of_zero_le (show 0 ≤ a by omega)
  have cp := blk_cell HG5b.out 4
  have yp := blk_frozen HG5b.out 4
  have HP5p := Kp.mk (blk_put HG5b.out 4 (.bool true) (cs' := #[.string (mkB qn), .int .i64 28, .int .i64 qc, .int .u32 tl, .bool true, .int .u8 0, .int .u8 0, .int .u8 0, .int .u8 0, .int .u8 0, .int .u8 0, .int .u8 0, .int .u8 0, .int .u8 0, .int .u8 0, .int .u8 0, .int .u8 0, .int .u8 0, .int .u8 0, .int .u8 0, .int .u8 0, .string ⟨#[]⟩, .slice none 0 0]) rfl)
  have HP8p := Kp.mk ((Below.heap_setCell w5 ⟨w.heap.size, 4, none⟩ (.bool true) (w.heap.size + 1) (by simp)).trans HG8b.out)
  have HP9p := Kp.mk ((Below.heap_setCell w5 ⟨w.heap.size, 4, none⟩ (.bool true) (w.heap.size + 2) (by simp)).trans HG9b.out)
  have HPSp := Kp.mk (HS5.out.setCell (p := ⟨w.heap.size, 4, none⟩) (Nat.le_refl _) (.bool true))
  have HEp := Kp.mk ((Below.heap_setCell w5 ⟨w.heap.size, 4, none⟩ (.bool true) w4.heap.size (by have := hz9; simp; omega)).trans HE5.out)
  go_wp2_with (with_reducible refine ld_mid rfl 26 (.tmp 37) rfl w.heap.size 4 rfl HP5p Tryz.underlying26 rfl [.bool true, .int .u8 0, .int .u8 0, .int .u8 0, .int .u8 0, .int .u8 0, .int .u8 0, .int .u8 0, .int .u8 0, .int .u8 0, .int .u8 0, .int .u8 0, .int .u8 0, .int .u8 0, .int .u8 0, .int .u8 0, .int .u8 0] (by kernel_rfl) rfl ?_)
  refine t_ (rsize_calls ⟨true, fun _ => 0⟩ _) HPSp ?_
  intro w6 HB6 HS6
  have HG5d := Kp.mk ((HB6.out.block _ (heap_lt HP5p.out)).trans HP5p.out)
  have HG8d := Kp.mk ((HB6.out.block _ (heap_lt HP8p.out)).trans HP8p.out)
  have HG9d := Kp.mk ((HB6.out.block _ (heap_lt HP9p.out)).trans HP9p.out)
  have HE6 := Kp.mk ((HB6.out.block _ (heap_lt HEp.out)).trans HEp.out)
  have HC6 := Kp.mk (Kd.C_below HC.out HS6.out)
  have hz6 := heap_lt HG9d.out
  have hz6e := heap_lt HE6.out
  clear d1 cp yp
  go_wp2_with (fail)
  go_loopw [11] (fun i wr => ∃ k : Nat, k ≤ 16 ∧ i = .int .i64 k ∧ Kp (wr.heap[w.heap.size]? = some (.cells #[.string (mkB qn), .int .i64 28, .int .i64 qc, .int .u32 tl, .bool true, .int .u8 (bK xs ai (k) 0), .int .u8 (bK xs ai (k) 1), .int .u8 (bK xs ai (k) 2), .int .u8 (bK xs ai (k) 3), .int .u8 (bK xs ai (k) 4), .int .u8 (bK xs ai (k) 5), .int .u8 (bK xs ai (k) 6), .int .u8 (bK xs ai (k) 7), .int .u8 (bK xs ai (k) 8), .int .u8 (bK xs ai (k) 9), .int .u8 (bK xs ai (k) 10), .int .u8 (bK xs ai (k) 11), .int .u8 (bK xs ai (k) 12), .int .u8 (bK xs ai (k) 13), .int .u8 (bK xs ai (k) 14), .int .u8 (bK xs ai (k) 15), .string ⟨#[]⟩, .slice none 0 0] 28 (0, 0))) ∧ Kp (Below w.heap.size w wr) ∧ Kp (∀ j, j ≠ w.heap.size → wr.heap[j]? = w6.heap[j]?)) (fun i _ => 16 - (intOf i).toNat)
  case atStart => exact ⟨0, by decide, rfl, HG5d, HS6, ⟨fun _ _ => rfl⟩⟩
  case round =>
    obtain ⟨k, hk, rfl, HG, HW, HJ⟩ := hrel
    by_cases hlt : k < 16
    · have b1 : decide ((k : Int) < 16) = true := by simp; omega
      have i0 : (0 : Int) ≤ (k : Int) := by omega
      have i1 : (k : Int) < 16 := by omega
      have hlx : ai + k < xs.length := by omega
      have wk : wrap64 ((ai : Int) + (k : Int)) = (ai : Int) + (k : Int) := by unfold wrap64; omega
      obtain ⟨ad, rfl, hcell⟩ := at_nat (Kd.C_below HC.out HW.out) (ai + k) (by omega)
      obtain ⟨x, hx2⟩ : ∃ x, xs.getD (ai + k) 0 = x := ⟨_, rfl⟩
      rw [hx2] at hcell
      have dk := (blk_cell HG.out (5 + k)).trans (rec_cell _ _ _ _ _ _ _ (bK xs ai k) k (by omega))
      have yk := blk_frozen HG.out (5 + k)
      have hput := blk_put HG.out (5 + k) (.int .u8 x) (cs' := #[.string (mkB qn), .int .i64 28, .int .i64 qc, .int .u32 tl, .bool true, .int .u8 (bK xs ai (k + 1) 0), .int .u8 (bK xs ai (k + 1) 1), .int .u8 (bK xs ai (k + 1) 2), .int .u8 (bK xs ai (k + 1) 3), .int .u8 (bK xs ai (k + 1) 4), .int .u8 (bK xs ai (k + 1) 5), .int .u8 (bK xs ai (k + 1) 6), .int .u8 (bK xs ai (k + 1) 7), .int .u8 (bK xs ai (k + 1) 8), .int .u8 (bK xs ai (k + 1) 9), .int .u8 (bK xs ai (k + 1) 10), .int .u8 (bK xs ai (k + 1) 11), .int .u8 (bK xs ai (k + 1) 12), .int .u8 (bK xs ai (k + 1) 13), .int .u8 (bK xs ai (k + 1) 14), .int .u8 (bK xs ai (k + 1) 15), .string ⟨#[]⟩, .slice none 0 0]) (rec_put _ _ _ _ _ _ _ (bK xs ai k) (bK xs ai (k + 1)) x k (by omega) (fun i => by rw [bK_step, hx2]))
      have HP := Kp.mk hput
      have HWn := Kp.mk (HW.out.setCell (p := ⟨w.heap.size, 5 + k, none⟩) (Nat.le_refl _) (.int .u8 x))
      have HJn : Kp (∀ j, j ≠ w.heap.size → (wr.setCell ⟨w.heap.size, 5 + k, none⟩ (.int .u8 x)).heap[j]? = w6.heap[j]?) := ⟨fun j hj => (Below.heap_setCell wr ⟨w.heap.size, 5 + k, none⟩ (.int .u8 x) j hj).trans (HJ.out j hj)⟩
      have m0 : (0 : Int) ≤ (ai : Int) + (k : Int) := by omega
      have m1 : (ai : Int) + (k : Int) < (xs.length : Int) := by omega
      have HME : Kp (k + 1 ≤ 16 ∧ 16 - (k + 1) < 16 - k) := ⟨by omega⟩
      clear hput hx2
      go_wp2
      refine ⟨⟨k + 1, HME.out.1, by go_num, HP, HWn, HJn⟩, ?_⟩
      have hi1 : (intOf (Value.int .i64 ((k : Int) + 1))).toNat = k + 1 := by simp [intOf] <;> omega
      have hi2 : (intOf (Value.int .i64 (k : Int))).toNat = k := by simp [intOf]
      rw [hi1, hi2]
      exact HME.out.2
    · obtain rfl : k = 16 := by omega
      have HG8r := Kp.mk ((HJ.out (w.heap.size + 1) (by omega)).trans HG8d.out)
      have HG9r := Kp.mk ((HJ.out (w.heap.size + 2) (by omega)).trans HG9d.out)
      go_wp2_with (first | (with_reducible refine ld_blk rfl 28 (.tmp 5) rfl w.heap.size rfl HG Tryz.underlying28 rfl (by kernel_rfl) ?_) | (with_reducible refine st_blk (w0 := w) (base := w.heap.size) rfl 28 (.tmp 8) (.tmp 82) rfl rfl (w.heap.size + 1) _ rfl rfl HG8r (by kernel_rfl) (by kernel_rfl) (by kernel_rfl) HW (Nat.le_succ _) ?_))
      intro w20 H20 HO20 HS20 hs20
      have HG9z := Kp.mk ((HO20.out _ (by omega)).trans HG9r.out)
      go_wp2_with (with_reducible refine st_blk (w0 := w) (base := w.heap.size) rfl 38 (.tmp 9) (.tmp 83) rfl rfl (w.heap.size + 2) _ rfl rfl HG9z (by kernel_rfl) (by kernel_rfl) (by kernel_rfl) HS20 (by omega) ?_)
      intro w21 H21 HO21 HS21 hs21
      have H20b := Kp.mk ((HO21.out _ (by omega)).trans H20.out)
      go_wp2
      refine bodyPost_ret (results_cc rfl _ _ (w.heap.size + 1) (w.heap.size + 2) 28 38 _ _ (0, 0) (0, 0) _ _ rfl H20b.out Tryz.underlying28 rfl (by kernel_rfl) rfl H21.out Tryz.underlying38 rfl (by kernel_rfl)) rfl ?_
      exact ⟨.slice none 0 0, rfl, Kd.R_nil _ _ _ _ _, HS21.out⟩
end Go.Proofs.YtlkneoednkhleaaGreatDoor
