/-
  Several texts of this seat in one: RecK, Wide, RecP, AdA, AdB, RecA, RecB, RecC, RecD, CatB, PutB, RecW, RecE, RecL, Awake13, Stored.
-/
import Derived.Test.YtlkneoednkhleaaGreatDoorYNameF
import Derived.Laws.StructEq
import Derived.Test.YtlkneoednkhleaaGreatDoorYWEqStruct
import Derived.DeepKeys
import Derived.Test.YtlkneoednkhleaaGreatDoorYCx
import Derived.Laws.Tables
import Derived.Deep.MidRow
import Derived.Deep.RegionHeld3
import Derived.Laws.CopyOwn
import Derived.StillTailTactics
import Derived.Test.YtlkneoednkhleaaGreatDoorYApp
import Derived.Lib.AppendZerosOnto
import Derived.Test.YtlkneoednkhleaaGreatDoorYGt
namespace Go.Proofs.YtlkneoednkhleaaGreatDoor
open Go.RowKit Go.Proofs.YtlkneoednkhleaaGreatDoorW.PrintWords
set_option linter.unusedVariables false
set_option linter.unusedSimpArgs false
set_option maxRecDepth 100000
set_option maxHeartbeats 1000000

/-- An address: its version's mark, its sixteen bytes. -/
structure Ad where
  v6 : Bool
  b : Nat → Int
def Ad.zero : Ad := ⟨false, fun _ => 0⟩
def Ad.l (a : Ad) : List Int := [a.b 0, a.b 1, a.b 2, a.b 3, a.b 4, a.b 5, a.b 6, a.b 7, a.b 8, a.b 9, a.b 10, a.b 11, a.b 12, a.b 13, a.b 14, a.b 15]
def adC (a : Ad) : List Value := [.bool a.v6, .int .u8 (a.b 0), .int .u8 (a.b 1), .int .u8 (a.b 2), .int .u8 (a.b 3), .int .u8 (a.b 4), .int .u8 (a.b 5), .int .u8 (a.b 6), .int .u8 (a.b 7), .int .u8 (a.b 8), .int .u8 (a.b 9), .int .u8 (a.b 10), .int .u8 (a.b 11), .int .u8 (a.b 12), .int .u8 (a.b 13), .int .u8 (a.b 14), .int .u8 (a.b 15)]
/-- Two rows of sixteen numbers alike. -/
def eq16 (xs ys : List Int) : Bool := xs == ys
theorem eq16_self (xs : List Int) : eq16 xs xs = true := by simp [eq16]
def Ad.ok (a : Ad) : Prop := ∀ i, i < 16 → 0 ≤ a.b i ∧ a.b i ≤ 255
def adK : Kd Ad where
  sz := 17
  E := []
  K := fun _ a cs => cs = adC a
  M := fun _ _ _ a cs => cs = adC a
  K_len := fun h => by rw [h]; rfl
  K_one := fun h u hu => by
    rw [h] at hu
    simp only [adC, List.mem_cons, List.not_mem_nil, or_false] at hu
    rcases hu with rfl | rfl | rfl | rfl | rfl | rfl | rfl | rfl | rfl | rfl | rfl | rfl | rfl | rfl | rfl | rfl | rfl <;> rfl
  K_below := fun _ h => h
  K_of_M := fun h => h
  M_mono := fun _ h => h
  M_bound := fun h => h
  M_move := fun _ h => h
  M_lower := fun _ h => h

/-- A question. -/
structure Qu where
  name : L
  typ : Int
  cls : Int
def Qu.zero : Qu := ⟨[], 0, 0⟩
def quK : Kd Qu := Kd.iso (Kd.pair Kd.string (Kd.pair (Kd.int .i64) (Kd.int .i64))) (fun q => (mkB q.name, q.typ, q.cls))
theorem quK_open {w : World} {q : Qu} {cs : List Value} : quK.K w q cs ↔ cs = [.string (mkB q.name), .int .i64 q.typ, .int .i64 q.cls] := by
  constructor
  · rintro ⟨c0, c1, rfl, h0, c2, c3, rfl, h2, h3⟩
    obtain rfl : c0 = [.string (mkB q.name)] := h0
    obtain rfl : c2 = [.int .i64 q.typ] := h2
    obtain rfl : c3 = [.int .i64 q.cls] := h3
    rfl
  · rintro rfl
    exact ⟨[_], [_, _], rfl, rfl, [_], [_], rfl, rfl, rfl⟩
/-- A record. -/
structure Rec where
  name : L
  typ : Int
  cls : Int
  ttl : Int
  ad : Ad
  tgt : L
  data : List Int
def Rec.zero : Rec := ⟨[], 0, 0, 0, Ad.zero, [], []⟩
/-- A record's cells; v: its data's. -/
abbrev recA (r : Rec) (v : Value) : Array Value := #[.string (mkB r.name), .int .i64 r.typ, .int .i64 r.cls, .int .u32 r.ttl, .bool r.ad.v6, .int .u8 (r.ad.b 0), .int .u8 (r.ad.b 1), .int .u8 (r.ad.b 2), .int .u8 (r.ad.b 3), .int .u8 (r.ad.b 4), .int .u8 (r.ad.b 5), .int .u8 (r.ad.b 6), .int .u8 (r.ad.b 7), .int .u8 (r.ad.b 8), .int .u8 (r.ad.b 9), .int .u8 (r.ad.b 10), .int .u8 (r.ad.b 11), .int .u8 (r.ad.b 12), .int .u8 (r.ad.b 13), .int .u8 (r.ad.b 14), .int .u8 (r.ad.b 15), .string (mkB r.tgt), v]
def recK : Kd Rec := Kd.iso (Kd.pair Kd.string (Kd.pair (Kd.int .i64) (Kd.pair (Kd.int .i64) (Kd.pair (Kd.int .u32) (Kd.pair adK (Kd.pair Kd.string bytesK)))))) (fun r => (mkB r.name, r.typ, r.cls, r.ttl, r.ad, mkB r.tgt, r.data))
theorem recK_open {w : World} {r : Rec} {cs : List Value} (h : recK.K w r cs) : ∃ A c, cs = (recA r (.slice A r.data.length c)).toList ∧ r.data.length ≤ c ∧ (Kd.int .u8).C w A r.data.length r.data := by
  obtain ⟨c0, c1, rfl, h0, c2, c3, rfl, h2, c4, c5, rfl, h4, c6, c7, rfl, h6, c8, c9, rfl, h8, ca, cb, rfl, ha, A, c, rfl, hl, hc⟩ := h
  obtain rfl : c0 = [.string (mkB r.name)] := h0
  obtain rfl : c2 = [.int .i64 r.typ] := h2
  obtain rfl : c4 = [.int .i64 r.cls] := h4
  obtain rfl : c6 = [.int .u32 r.ttl] := h6
  obtain rfl : c8 = adC r.ad := h8
  obtain rfl : ca = [.string (mkB r.tgt)] := ha
  exact ⟨A, c, rfl, hl, hc⟩
/-- What may be read off a record. -/
structure Rec.ok (r : Rec) : Prop where
  ad : r.ad.ok
  data : Byts r.data

/-! '==' -/
theorem run_eqItems (d : Nat) (xs ys : List Int) (w : World) (is : List Nat) (hx : ∀ i ∈ is, i < xs.length ∧ i < ys.length) :
    (Op.eqItems (d + 1) 5 1 (nums .u8 xs).toArray (nums .u8 ys).toArray is).run Tryz.prog w = .ok (is.all fun i => xs.getD i 0 == ys.getD i 0) w := by
  have hp : Tryz.prog.plainKey 5 = true := by kernel_rfl
  induction is with
  | nil => simp [Op.eqItems]
  | cons i is ih =>
    obtain ⟨h1, h2⟩ := hx i (by simp)
    have hg : ∀ zs : List Int, i < zs.length → (nums .u8 zs).toArray[i * 1]? = some (.int .u8 (zs.getD i 0)) := by
      intro zs hz
      rw [Nat.mul_one, List.getElem?_toArray]
      simp [nums, hz]
    have p1 := run_part_plain (P := Tryz.prog) w hp (hg xs h1)
    have p2 := run_part_plain (P := Tryz.prog) w hp (hg ys h2)
    have p3 := run_equalIn_int (P := Tryz.prog) w d 5 .u8 .u8 (xs.getD i 0) (ys.getD i 0) Tryz.underlying5
    have h4 := ih (fun j hj => hx j (List.mem_cons_of_mem _ hj))
    obtain ⟨r, hr⟩ : ∃ r, (xs.getD i 0 == ys.getD i 0) = r := ⟨_, rfl⟩
    rw [hr] at p3
    rw [List.all_cons, hr, Op.eqItems]
    simp only [Sem.run_bind, p1, p2, p3, Result.andThen_ok]
    cases r
    · simp
    · simpa using h4
theorem run_eq16 (d : Nat) (x0 x1 x2 x3 x4 x5 x6 x7 x8 x9 x10 x11 x12 x13 x14 x15 y0 y1 y2 y3 y4 y5 y6 y7 y8 y9 y10 y11 y12 y13 y14 y15 : Int) (w : World) :
    (Op.equalIn (d + 2) 24 (.agg #[.int .u8 x0, .int .u8 x1, .int .u8 x2, .int .u8 x3, .int .u8 x4, .int .u8 x5, .int .u8 x6, .int .u8 x7, .int .u8 x8, .int .u8 x9, .int .u8 x10, .int .u8 x11, .int .u8 x12, .int .u8 x13, .int .u8 x14, .int .u8 x15]) (.agg #[.int .u8 y0, .int .u8 y1, .int .u8 y2, .int .u8 y3, .int .u8 y4, .int .u8 y5, .int .u8 y6, .int .u8 y7, .int .u8 y8, .int .u8 y9, .int .u8 y10, .int .u8 y11, .int .u8 y12, .int .u8 y13, .int .u8 y14, .int .u8 y15])).run Tryz.prog w = .ok (eq16 [x0, x1, x2, x3, x4, x5, x6, x7, x8, x9, x10, x11, x12, x13, x14, x15] [y0, y1, y2, y3, y4, y5, y6, y7, y8, y9, y10, y11, y12, y13, y14, y15]) w := by
  obtain ⟨i, hi⟩ := info_of_underlying Tryz.underlying5
  have hc : Tryz.prog.cellsOf 5 = 1 := by kernel_rfl
  have h := run_eqItems d [x0, x1, x2, x3, x4, x5, x6, x7, x8, x9, x10, x11, x12, x13, x14, x15] [y0, y1, y2, y3, y4, y5, y6, y7, y8, y9, y10, y11, y12, y13, y14, y15] w (List.range 16) (fun i hi => by simpa using hi)
  rw [run_equalIn_array w (d + 1) _ _ Tryz.underlying24 hi, hc]
  refine h.trans ?_
  congr 1
theorem run_eq_ad (v u : Bool) (x0 x1 x2 x3 x4 x5 x6 x7 x8 x9 x10 x11 x12 x13 x14 x15 y0 y1 y2 y3 y4 y5 y6 y7 y8 y9 y10 y11 y12 y13 y14 y15 : Int) (w : World) :
    (binOp .eql 26 (.agg #[.bool v, .int .u8 x0, .int .u8 x1, .int .u8 x2, .int .u8 x3, .int .u8 x4, .int .u8 x5, .int .u8 x6, .int .u8 x7, .int .u8 x8, .int .u8 x9, .int .u8 x10, .int .u8 x11, .int .u8 x12, .int .u8 x13, .int .u8 x14, .int .u8 x15]) (.agg #[.bool u, .int .u8 y0, .int .u8 y1, .int .u8 y2, .int .u8 y3, .int .u8 y4, .int .u8 y5, .int .u8 y6, .int .u8 y7, .int .u8 y8, .int .u8 y9, .int .u8 y10, .int .u8 y11, .int .u8 y12, .int .u8 y13, .int .u8 y14, .int .u8 y15])).run Tryz.prog w = .ok (.bool (v == u && eq16 [x0, x1, x2, x3, x4, x5, x6, x7, x8, x9, x10, x11, x12, x13, x14, x15] [y0, y1, y2, y3, y4, y5, y6, y7, y8, y9, y10, y11, y12, y13, y14, y15])) w := by
  rw [run_eql_struct, eqA_of (P := Tryz.prog) Tryz.underlying26 (by kernel_rfl) (eqf_cons (by kernel_rfl) (a := .bool v) (by kernel_rfl) (b := .bool u) (by kernel_rfl) (run_equalIn_bool' (P := Tryz.prog) w 9998 4 v u Tryz.underlying4)
    (eqf_last (by kernel_rfl) (a := .agg #[.int .u8 x0, .int .u8 x1, .int .u8 x2, .int .u8 x3, .int .u8 x4, .int .u8 x5, .int .u8 x6, .int .u8 x7, .int .u8 x8, .int .u8 x9, .int .u8 x10, .int .u8 x11, .int .u8 x12, .int .u8 x13, .int .u8 x14, .int .u8 x15]) (by kernel_rfl) (b := .agg #[.int .u8 y0, .int .u8 y1, .int .u8 y2, .int .u8 y3, .int .u8 y4, .int .u8 y5, .int .u8 y6, .int .u8 y7, .int .u8 y8, .int .u8 y9, .int .u8 y10, .int .u8 y11, .int .u8 y12, .int .u8 y13, .int .u8 y14, .int .u8 y15]) (by kernel_rfl) (run_eq16 9997 x0 x1 x2 x3 x4 x5 x6 x7 x8 x9 x10 x11 x12 x13 x14 x15 y0 y1 y2 y3 y4 y5 y6 y7 y8 y9 y10 y11 y12 y13 y14 y15 w)))]
  rfl
/-- A row in a block that is known whole. -/
theorem C_blk {w : World} {g o : Nat} {cs : Array Value} {T : TypeId} {k : IntKind} {xs : List Int} (hb : w.heap[g]? = some (.cells cs T (0, 0))) (hm : xs.length ≤ 9223372036854775807) (h : ∀ j, j < xs.length → cs[o + j]? = some (.int k (xs.getD j 0))) :
    (Kd.int k).C w (some ⟨g, o, none⟩) xs.length xs := by
  refine Kd.C_of_reads (d := 0) ⟨rfl, hm, fun _ => ⟨_, rfl, fun j hj => ?_⟩⟩
  have e : (⟨g, o, none⟩ : Addr).add j = ⟨g, o + j, none⟩ := by unfold Addr.add; split <;> simp_all
  rw [e, blk_cell hb (o + j)]
  exact h j hj
end Go.Proofs.YtlkneoednkhleaaGreatDoor

namespace Go.Proofs.YtlkneoednkhleaaGreatDoor
open Go.RowKit Go.Proofs.YtlkneoednkhleaaGreatDoorW.PrintWords
set_option linter.unusedVariables false
set_option linter.unusedSimpArgs false
set_option maxRecDepth 100000
set_option maxHeartbeats 1000000

section
variable {P : Program} {ops : Array Oper} {rest : List Oper} {o : Oper} {a : Act} {Q : Exit → Act → World → Prop} {w w0 : World}
/-- A struct that is loaded whole. -/
theorem ld_blk (hgd : o.guard = none) (ty : TypeId) (x : Operand) (ho : o.op = .load ty x) (g : Nat) (hx : a.eval x = .pointer (some ⟨g, 0, none⟩)) {t : TypeId} {cs : Array Value} (hg : Kp (w.heap[g]? = some (.cells cs t (0, 0))))
    {d : TypeDesc} (hu : P.underlying ty = some d) (hd : (match d with | .struct _ | .array _ _ => true | _ => false) = true) (hi : (P.info? ty).map (·.size) = some cs.size)
    (h : wpList P ops Q rest (a.put o.dst (.agg cs)) w) : wpList P ops Q (o :: rest) a w :=
  wpList_load_row hgd ty x ho g hx t cs (0, 0) d hg.out hu hd hi h
/-- .. out of the midst of a block. -/
theorem ld_mid (hgd : o.guard = none) (ty : TypeId) (x : Operand) (ho : o.op = .load ty x) (g off : Nat) (hx : a.eval x = .pointer (some ⟨g, off, none⟩)) {t : TypeId} {cs : Array Value} (hg : Kp (w.heap[g]? = some (.cells cs t (0, 0))))
    {d : TypeDesc} (hu : P.underlying ty = some d) (hd : d.isRow = true) (seg : List Value) (hi : (P.info? ty).map (·.size) = some seg.length) (hs : ((cs.toList.drop off).take seg.length) = seg)
    (h : wpList P ops Q rest (a.put o.dst (.agg seg.toArray)) w) : wpList P ops Q (o :: rest) a w := by
  refine wpList_load_mid hgd ty x ho g off hx seg d (fun j v hj => ?_) hu hd hi h
  rw [blk_cell hg.out]
  have h1 : ((cs.toList.drop off).take seg.length)[j]? = some v := by rw [hs]; exact hj
  have hjl : j < seg.length := (List.getElem?_eq_some_iff.1 hj).1
  rw [List.getElem?_take, if_pos hjl, List.getElem?_drop, Array.getElem?_toList] at h1
  exact h1
/-- .. stored whole: the block holds it then; nothing else has changed. -/
theorem st_blk (hgd : o.guard = none) (ty : TypeId) (x y : Operand) (ho : o.op = .store ty x y) (hd : o.dst = none) (g : Nat) (cells : Array Value) (hx : a.eval x = .pointer (some ⟨g, 0, none⟩)) (hy : a.eval y = .agg cells)
    {t : TypeId} {old : Array Value} (hg : Kp (w.heap[g]? = some (.cells old t (0, 0)))) (hi : (P.info? ty).map (·.size) = some cells.size) (hold : old.size = cells.size) (h1 : cells.all (·.oneCell') = true)
    {base : Nat} (HB : Kp (Below base w0 w)) (hbg : base ≤ g)
    (h : ∀ w', Kp (w'.heap[g]? = some (.cells cells t (0, 0))) → Kp (∀ k, k ≠ g → w'.heap[k]? = w.heap[k]?) → Kp (Below base w0 w') → w'.heap.size = w.heap.size → wpList P ops Q rest a w') : wpList P ops Q (o :: rest) a w := by
  refine wpList_store_row hgd ty x y ho g cells hx hy t old hg.out hi hold h1 ?_
  rw [hd]
  refine h (w.setRow g cells) ⟨setRow_heap w g old cells t (0, 0) hg.out⟩ ⟨fun k hk => setRow_other w g k cells hk⟩
    ⟨⟨HB.out.os, HB.out.tape, HB.out.output, by rw [size_setRow]; exact HB.out.size, fun k hk => (setRow_other w g k cells (by omega)).trans (HB.out.block k hk)⟩⟩ (size_setRow w g cells)
/-- .. into the midst of a block. -/
def putAll (cs : Array Value) : Nat → List Value → Array Value
  | _, [] => cs
  | o, v :: r => putAll (cs.setIfInBounds o v) (o + 1) r
theorem setCells_blk (g : Nat) (t : TypeId) : ∀ (vs : List Value) (o : Nat) (cs : Array Value) (w : World), w.heap[g]? = some (.cells cs t (0, 0)) → (w.setCells g o vs).heap[g]? = some (.cells (putAll cs o vs) t (0, 0))
  | [], _, _, _, h => h
  | v :: r, o, cs, w, h => setCells_blk g t r (o + 1) _ _ (blk_put h o v rfl)
theorem setCells_other (g k : Nat) (hk : k ≠ g) : ∀ (vs : List Value) (o : Nat) (w : World), (w.setCells g o vs).heap[k]? = w.heap[k]?
  | [], _, _ => rfl
  | v :: r, o, w => (setCells_other g k hk r (o + 1) _).trans (Below.heap_setCell w ⟨g, o, none⟩ v k hk)
theorem setCells_below {base g : Nat} (hg : base ≤ g) : ∀ (vs : List Value) (o : Nat) (w w0 : World), Below base w0 w → Below base w0 (w.setCells g o vs)
  | [], _, _, _, h => h
  | v :: r, o, w, w0, h => setCells_below hg r (o + 1) _ w0 (h.setCell (p := ⟨g, o, none⟩) hg v)
theorem setCells_size (g : Nat) : ∀ (vs : List Value) (o : Nat) (w : World), (w.setCells g o vs).heap.size = w.heap.size
  | [], _, _ => rfl
  | v :: r, o, w => (setCells_size g r (o + 1) _).trans (by simp)
theorem st_mid (hgd : o.guard = none) (ty : TypeId) (x y : Operand) (ho : o.op = .store ty x y) (hd : o.dst = none) (g off : Nat) (cells : Array Value) (hx : a.eval x = .pointer (some ⟨g, off, none⟩)) (hy : a.eval y = .agg cells)
    {t : TypeId} {old new : Array Value} (hg : Kp (w.heap[g]? = some (.cells old t (0, 0)))) (hi : (P.info? ty).map (·.size) = some cells.size) (hfit : off + cells.size ≤ old.size) (h1 : cells.all (·.oneCell') = true) (hn : putAll old off cells.toList = new)
    {base : Nat} (HB : Kp (Below base w0 w)) (hbg : base ≤ g)
    (h : ∀ w', Kp (w'.heap[g]? = some (.cells new t (0, 0))) → Kp (∀ k, k ≠ g → w'.heap[k]? = w.heap[k]?) → Kp (Below base w0 w') → w'.heap.size = w.heap.size → wpList P ops Q rest a w') : wpList P ops Q (o :: rest) a w := by
  refine wpList_store_mid hgd ty x y ho g off cells hx hy (fun j hj => ⟨?_, blk_frozen hg.out _⟩) hi h1 ?_
  · rw [blk_cell hg.out, Array.getElem?_eq_getElem (by omega)]
    rfl
  rw [hd]
  exact h _ ⟨hn ▸ setCells_blk g t _ _ _ _ hg.out⟩ ⟨fun k hk => setCells_other g k hk _ _ _⟩ ⟨setCells_below hbg _ _ _ _ HB.out⟩ (setCells_size _ _ _ _)
end
section
variable {w w' : World} {g b : Nat} {ok : Nat → Prop}
/-- What was made from a place on is as it was where another, elder block was written. -/
theorem M_stored {α : Type} {d : Kd α} {x : α} {cs : List Value} (h : d.M w b ok x cs) (hg : g < b) (HO : ∀ k, k ≠ g → w'.heap[k]? = w.heap[k]?) : d.M w' b ok x cs :=
  d.M_mono (fun _ hk => hk.1) (d.M_move (fun k hk => HO k (by have := hk.2.1; omega)) (d.M_bound h))
theorem R_stored {α : Type} {d : Kd α} {e : Nat} {v : Value} {xs : List α} (h : d.R e w b ok v xs) (hg : g < b) (HO : ∀ k, k ≠ g → w'.heap[k]? = w.heap[k]?) : d.R e w' b ok v xs :=
  Kd.R_mono (Kd.R_move (Kd.R_bound h) (fun k hk => HO k (by have := hk.2.1; omega))) (fun _ hk => hk.1)
end
theorem er_some {w : World} {x : Er} {v : Value} (h : erK.K w x [v]) (hx : x ≠ .none) : ∃ T u, v = .iface T u := by
  rcases x with _ | c | ⟨a, c⟩
  · exact absurd rfl hx
  · exact ⟨_, _, er_open_code h⟩
  · obtain ⟨p, h, -⟩ := er_open_fault h
    exact ⟨_, _, h⟩
/-- A number of two, of four bytes. -/
def be16 (v : Int) : List Int := [v / 256, v % 256]
def be32 (v : Int) : List Int := [v / 16777216, v / 65536 % 256, v / 256 % 256, v % 256]
end Go.Proofs.YtlkneoednkhleaaGreatDoor

namespace Go.Proofs.YtlkneoednkhleaaGreatDoor
open Go.RowKit Go.Proofs.YtlkneoednkhleaaGreatDoorW.PrintWords
set_option linter.unusedVariables false
set_option linter.unusedSimpArgs false
set_option maxRecDepth 100000
set_option maxHeartbeats 1000000

/-- A question at a place. -/
def quR (xs : List Int) (a : Int) : Qu × Int × Er :=
  if (readN xs a).2.2 ≠ .none then (Qu.zero, 0, (readN xs a).2.2)
  else if partE xs.length (readN xs a).2.1 2 ≠ .none then (Qu.zero, 0, partE xs.length (readN xs a).2.1 2)
  else if partE xs.length ((readN xs a).2.1 + 2) 2 ≠ .none then (Qu.zero, 0, partE xs.length ((readN xs a).2.1 + 2) 2)
  else (⟨(readN xs a).1, numV xs (readN xs a).2.1 2, numV xs ((readN xs a).2.1 + 2) 2⟩, (readN xs a).2.1 + 4, .none)
/-- How many bytes an address of a type has; 0: the type has none. -/
def szT (t : Int) : Int := if t = 28 then 16 else if t = 1 then 4 else 0
/-- The address of a type, out of bytes. -/
def adOf (t : Int) (d : List Int) : Ad := ⟨decide (t = 28), fun i => if (i : Int) < szT t then d.getD i 0 else 0⟩
/-- What stands behind a record's length, at a place. -/
def fillR (xs : List Int) (a : Int) (r : Rec) : Rec × Int × Er :=
  if partE xs.length a 2 ≠ .none then (r, 0, partE xs.length a 2)
  else if partE xs.length (a + 2) (numV xs a 2) ≠ .none then (r, 0, .fault a 3)
  else if r.typ = 5 then
    if (readN xs (a + 2)).2.2 ≠ .none then (r, 0, (readN xs (a + 2)).2.2)
    else if (readN xs (a + 2)).2.1 ≠ a + 2 + numV xs a 2 then (r, 0, .fault a 7)
    else ({ r with tgt := (readN xs (a + 2)).1 }, a + 2 + numV xs a 2, .none)
  else if szT r.typ = 0 then ({ r with data := partV xs (a + 2) (numV xs a 2) }, a + 2 + numV xs a 2, .none)
  else if szT r.typ ≠ numV xs a 2 then (r, 0, .fault a 7)
  else ({ r with ad := adOf r.typ (partV xs (a + 2) (numV xs a 2)) }, a + 2 + numV xs a 2, .none)
/-- A record at a place. -/
def recR (xs : List Int) (a : Int) : Rec × Int × Er :=
  if (quR xs a).2.2 ≠ .none then (Rec.zero, 0, (quR xs a).2.2)
  else if partE xs.length (quR xs a).2.1 4 ≠ .none then (Rec.zero, 0, partE xs.length (quR xs a).2.1 4)
  else
    let r : Rec := { Rec.zero with name := (quR xs a).1.name, typ := (quR xs a).1.typ, cls := (quR xs a).1.cls, ttl := numV xs (quR xs a).2.1 4 }
    if (fillR xs ((quR xs a).2.1 + 4) r).2.2 ≠ .none then (Rec.zero, 0, (fillR xs ((quR xs a).2.1 + 4) r).2.2) else fillR xs ((quR xs a).2.1 + 4) r

theorem askE_none {len a n : Int} (h : askE len a n = .none) : 0 ≤ a ∧ 0 ≤ n ∧ (0 < n → a ≤ len - n) := by
  unfold askE at h
  split at h
  · cases h
  · split at h
    · cases h
    · omega
theorem partE_none {len a n : Int} (h : partE len a n = .none) : 0 ≤ a ∧ 0 ≤ n ∧ (0 < n → a ≤ len - n) := by
  rcases askE_cases len a n with h0 | h0 | h0
  · exact askE_none h0
  · unfold partE at h; rw [h0] at h; simp [shortE, Er.num] at h
  · unfold partE at h; rw [h0] at h; simp [shortE, Er.num, Er.deeper] at h
theorem partE_cases (len a n : Int) : partE len a n = .none ∨ (partE len a n).num ≠ 0 := by
  rcases askE_cases len a n with h0 | h0 | h0 <;> unfold partE <;> rw [h0]
  · exact .inl rfl
  · exact .inr (by simp [shortE, Er.num])
  · exact .inr (by simp [shortE, Er.num, Er.deeper])
theorem partE_some {len a n : Int} (h0 : 0 ≤ a) (hn : 0 ≤ n) (h : partE len a n ≠ .none) : partE len a n = .fault a 3 := by
  by_cases h1 : 0 < n ∧ len - n < a
  · exact partE_short h0 h1.1 h1.2
  · exact absurd (by unfold partE; rw [show askE len a n = .none by unfold askE; rw [if_neg (by omega), if_neg h1]]; rfl) h
theorem num_range (xs : List Int) (a n : Int) (h : Byts xs) (hn : n = 2 ∨ n = 4) : 0 ≤ numV xs a n ∧ numV xs a n ≤ 4294967295 ∧ (n = 2 → numV xs a n ≤ 65535) := by
  rcases hn with rfl | rfl
  · have := u16_range xs a h
    exact ⟨this.1, by omega, fun _ => this.2⟩
  · refine ⟨?_, ?_, fun h => by omega⟩ <;> (
      unfold numV
      split
      · have h1 := be_range ((xs.drop a.toNat).take (4 : Int).toNat) (fun x hx => h x (List.mem_of_mem_drop (List.mem_of_mem_take hx)))
        have h2 : ((xs.drop a.toNat).take (4 : Int).toNat).length ≤ 4 := by rw [List.length_take]; exact Nat.min_le_left _ _
        have h3 : (256 : Nat) ^ ((xs.drop a.toNat).take (4 : Int).toNat).length ≤ 256 ^ 4 := Nat.pow_le_pow_right (by decide) h2
        have h4 : (256 : Int) ^ ((xs.drop a.toNat).take (4 : Int).toNat).length ≤ 256 ^ 4 := Int.ofNat_le.2 h3
        omega
      · omega)
/-- Where a name that is read ends. -/
theorem readF_end (k : Nat) (xs : List Int) (a b e : Int) (ls : List L) (ha : 0 ≤ a) (he : e < 0 ∨ e ≤ xs.length) (hx : Byts xs) :
    0 ≤ (readF k xs a b e ls).2.1 ∧ (readF k xs a b e ls).2.1 ≤ xs.length := by
  induction k generalizing a b e ls with
  | zero => exact ⟨Int.le_refl _, by simp [readF]⟩
  | succ k ih =>
    rw [readF]
    split
    · exact ⟨Int.le_refl _, by simp⟩
    · rename_i h1
      have hb := hx _ (getD_mem xs 0 a.toNat (by omega))
      split
      · dsimp only
        split <;> omega
      · split
        · split
          · exact ih _ _ _ _ (by omega) he
          · exact ⟨Int.le_refl _, by simp⟩
        · split
          · split
            · rename_i hl
              refine ih _ _ _ _ (leapTo_range xs a).1 ?_
              have : a ≤ xs.length - 2 := by
                unfold leapE at hl
                split at hl
                · cases hl
                · omega
              split
              · right; omega
              · exact he
            · exact ⟨Int.le_refl _, by simp⟩
          · exact ⟨Int.le_refl _, by simp⟩
theorem readN_end (xs : List Int) (a : Int) (hx : Byts xs) : 0 ≤ (readN xs a).2.1 ∧ (readN xs a).2.1 ≤ xs.length := by
  unfold readN
  split
  · exact ⟨Int.le_refl _, by simp⟩
  · exact readF_end _ _ _ _ _ _ (by omega) (.inl (by omega)) hx
theorem quR_end (xs : List Int) (a : Int) (hx : Byts xs) : 0 ≤ (quR xs a).2.1 ∧ (quR xs a).2.1 ≤ xs.length := by
  have hr := readN_end xs a hx
  unfold quR
  split
  · exact ⟨Int.le_refl _, by simp⟩
  · split
    · exact ⟨Int.le_refl _, by simp⟩
    · split
      · exact ⟨Int.le_refl _, by simp⟩
      · rename_i h
        have h' : partE xs.length ((readN xs a).2.1 + 2) 2 = .none := by simpa using h
        have := partE_none h'
        dsimp only
        omega
end Go.Proofs.YtlkneoednkhleaaGreatDoor

namespace Go.Proofs.YtlkneoednkhleaaGreatDoor
open Go.RowKit Go.Proofs.YtlkneoednkhleaaGreatDoorW.PrintWords
set_option linter.unusedVariables false
set_option linter.unusedSimpArgs false
set_option maxRecDepth 100000
set_option maxHeartbeats 1000000

def nzB (c : Int) : Bool := c != 0
theorem nz_calls (c : Int) (w : World) : Calls Tryz.prog 101 #[.int .u8 c] w fun e w' => e = .returned (.bool (nzB c)) ∧ w = w' := by
  go_enter Tryz.func101, Tryz.ntmps101
  go_wp2
  go_ret
  exact ⟨rfl, rfl⟩
/-- slices.IndexFunc, ContainsFunc at addr.Right's own function. -/
theorem indexZ_calls (A : Option Addr) (n c : Nat) (xs : List Int) (w : World) (h : (Kd.int .u8).C w A n xs) :
    Calls Tryz.prog 125 #[.slice A n c, .func (.func 101) #[] #[]] w fun e w' => (∃ r : Int, e = .returned (.int .i64 r) ∧ decide (0 ≤ r) = xs.any nzB) ∧ w = w' := by
  obtain ⟨hl, hm⟩ := C_len h
  have HC := Kp.mk h
  have HL := Kp.mk hl
  clear h hl
  go_enter Tryz.func125, Tryz.ntmps125
  go_wp2_with (fail)
  go_loop [8] (fun i => ∃ k : Nat, k ≤ n ∧ i = .int .i64 k ∧ Kp ((xs.take k).any nzB = false)) (fun i => n - (intOf i).toNat)
  case atStart => exact ⟨0, Nat.zero_le _, rfl, ⟨by simp⟩⟩
  case round =>
    obtain ⟨k, hk, rfl, HA⟩ := hrel
    by_cases hlt : k < n
    · obtain ⟨ad, rfl, hcell⟩ := at_nat HC.out k hlt
      have HT := Kp.mk (take_snoc xs 0 k (by rw [HL.out]; exact hlt))
      obtain ⟨x, hx⟩ : ∃ x, xs.getD k 0 = x := ⟨_, rfl⟩
      have HX := Kp.mk (getD_mem xs 0 k (by rw [HL.out]; exact hlt))
      rw [hx] at hcell HT HX
      clear hx
      by_cases hb : nzB x = true
      · go_wp2_with (go_at_call 101; refine (nz_calls _ _).mono ?_; rintro e w' ⟨rfl, rfl⟩)
        go_ret
        exact ⟨⟨k, rfl, by rw [List.any_eq_true.2 ⟨x, HX.out, hb⟩]; simp⟩, rfl⟩
      · have hb' : nzB x = false := by simpa using hb
        clear hb
        go_wp2_with (go_at_call 101; refine (nz_calls _ _).mono ?_; rintro e w' ⟨rfl, rfl⟩)
        exact ⟨⟨k + 1, by omega, by go_num, ⟨by rw [HT.out, List.any_append, HA.out]; simp [hb']⟩⟩, by simp [intOf]; omega⟩
    · obtain rfl : k = n := by omega
      have ht : xs.take k = xs := List.take_of_length_le (by rw [HL.out]; omega)
      rw [ht] at HA
      clear ht hlt
      go_wp2
      go_ret
      exact ⟨⟨-1, rfl, by rw [HA.out]; rfl⟩, rfl⟩
theorem containsZ_calls (A : Option Addr) (n c : Nat) (xs : List Int) (w : World) (h : (Kd.int .u8).C w A n xs) :
    Calls Tryz.prog 100 #[.slice A n c, .func (.func 101) #[] #[]] w fun e w' => e = .returned (.bool (xs.any nzB)) ∧ w = w' := by
  have HC := Kp.mk h
  clear h
  go_enter Tryz.func100, Tryz.ntmps100
  go_wp2_with (fail)
  refine (indexZ_calls _ _ _ _ _ HC.out).mono ?_
  rintro e w1 ⟨⟨r, rfl, hr⟩, rfl⟩
  have HR := Kp.mk hr
  clear hr
  go_wp2
  go_ret
  exact ⟨by rw [← HR.out]; rfl, rfl⟩

/-- May an address be? -/
def Ad.right (a : Ad) : Bool := a.v6 || !(a.l.drop 4).any nzB
theorem addr_right (a : Ad) (w : World) : Calls Tryz.prog 61 #[.agg #[.bool a.v6, .int .u8 (a.b 0), .int .u8 (a.b 1), .int .u8 (a.b 2), .int .u8 (a.b 3), .int .u8 (a.b 4), .int .u8 (a.b 5), .int .u8 (a.b 6), .int .u8 (a.b 7), .int .u8 (a.b 8), .int .u8 (a.b 9), .int .u8 (a.b 10), .int .u8 (a.b 11), .int .u8 (a.b 12), .int .u8 (a.b 13), .int .u8 (a.b 14), .int .u8 (a.b 15)]] w fun e w' => e = .returned (.bool a.right) ∧ Below w.heap.size w w' := by
  obtain ⟨v, b⟩ := a
  have hr : Ad.right ⟨v, b⟩ = (v || !([b 0, b 1, b 2, b 3, b 4, b 5, b 6, b 7, b 8, b 9, b 10, b 11, b 12, b 13, b 14, b 15].drop 4).any nzB) := rfl
  rw [hr]
  clear hr
  show Calls Tryz.prog 61 #[.agg #[.bool v, .int .u8 (b 0), .int .u8 (b 1), .int .u8 (b 2), .int .u8 (b 3), .int .u8 (b 4), .int .u8 (b 5), .int .u8 (b 6), .int .u8 (b 7), .int .u8 (b 8), .int .u8 (b 9), .int .u8 (b 10), .int .u8 (b 11), .int .u8 (b 12), .int .u8 (b 13), .int .u8 (b 14), .int .u8 (b 15)]] w fun e w' => e = .returned (.bool (v || !([b 0, b 1, b 2, b 3, b 4, b 5, b 6, b 7, b 8, b 9, b 10, b 11, b 12, b 13, b 14, b 15].drop 4).any nzB)) ∧ Below w.heap.size w w'
  cases v
  · have hC : (Kd.int .u8).C (w.alloc (.cells #[.bool false, .int .u8 (b 0), .int .u8 (b 1), .int .u8 (b 2), .int .u8 (b 3), .int .u8 (b 4), .int .u8 (b 5), .int .u8 (b 6), .int .u8 (b 7), .int .u8 (b 8), .int .u8 (b 9), .int .u8 (b 10), .int .u8 (b 11), .int .u8 (b 12), .int .u8 (b 13), .int .u8 (b 14), .int .u8 (b 15)] 26)) (some ⟨w.heap.size, 5, none⟩) 12 ([b 0, b 1, b 2, b 3, b 4, b 5, b 6, b 7, b 8, b 9, b 10, b 11, b 12, b 13, b 14, b 15].drop 4) :=
      C_blk (heap_new _ _) (by show (12 : Nat) ≤ 9223372036854775807; decide) fun j hj => by
        have hj' : j < 12 := hj
        match j, hj' with
        | 0, _ | 1, _ | 2, _ | 3, _ | 4, _ | 5, _ | 6, _ | 7, _ | 8, _ | 9, _ | 10, _ | 11, _ => rfl
    rw [Bool.false_or]
    obtain ⟨ys, hys⟩ : ∃ ys, [b 0, b 1, b 2, b 3, b 4, b 5, b 6, b 7, b 8, b 9, b 10, b 11, b 12, b 13, b 14, b 15].drop 4 = ys := ⟨_, rfl⟩
    rw [hys] at hC ⊢
    obtain ⟨r, hr⟩ : ∃ r, ys.any nzB = r := ⟨_, rfl⟩
    rw [hr]
    have HR := Kp.mk hr
    have HC := Kp.mk hC
    clear hC hys hr
    go_enter Tryz.func61, Tryz.ntmps61
    go_wp2_with (fail)
    refine (containsZ_calls _ _ _ _ _ HC.out).mono ?_
    rintro e w1 ⟨rfl, rfl⟩
    rw [HR.out]
    go_wp2
    go_ret
    exact ⟨rfl, (Below.refl _ _).alloc (Nat.le_refl _) _⟩
  · go_enter Tryz.func61, Tryz.ntmps61
    go_wp2
    go_ret
    exact ⟨rfl, (Below.refl _ _).alloc (Nat.le_refl _) _⟩
end Go.Proofs.YtlkneoednkhleaaGreatDoor

namespace Go.Proofs.YtlkneoednkhleaaGreatDoor
open Go.RowKit Go.Proofs.YtlkneoednkhleaaGreatDoorW.PrintWords
set_option linter.unusedVariables false
set_option linter.unusedSimpArgs false
set_option maxRecDepth 100000
set_option maxHeartbeats 1000000

/-- Two new blocks, behind draws. -/
theorem two_new (w : World) (o1 o2 : Obj) : ((w.alloc o1).alloc o2).heap[w.heap.size]? = some o1 ∧ ((w.alloc o1).alloc o2).heap[w.heap.size + 1]? = some o2 ∧ Below w.heap.size w ((w.alloc o1).alloc o2) := by
  have h1 : (w.alloc o1).heap.size = w.heap.size + 1 := by simp
  refine ⟨by rw [Below.heap_alloc _ _ _ (by omega)]; exact heap_new w o1, h1 ▸ heap_new _ o2, ((Below.refl _ _).alloc (Nat.le_refl _) _).alloc (by omega) _⟩
theorem four_raw (A : Option Addr) (c : Nat) (x0 x1 x2 x3 : Int) (w : World) (h : (Kd.int .u8).C w A 4 [x0, x1, x2, x3]) (hc : 4 ≤ c) :
    Calls Tryz.prog 119 #[.slice A 4 c, .int .i64 0] w fun e w' => e = .returned (.agg #[.bool false, .int .u8 x0, .int .u8 x1, .int .u8 x2, .int .u8 x3, .int .u8 0, .int .u8 0, .int .u8 0, .int .u8 0, .int .u8 0, .int .u8 0, .int .u8 0, .int .u8 0, .int .u8 0, .int .u8 0, .int .u8 0, .int .u8 0]) ∧ Below w.heap.size w w' := by
  obtain ⟨hb0, hb1, hb2⟩ := two_new w (.cells (adC Ad.zero).toArray 26) (.cells (adC Ad.zero).toArray 26)
  have H0 := Kp.mk hb0
  have HH := Kp.mk hb1
  have HB := Kp.mk hb2
  obtain ⟨ad, rfl, -⟩ := at_nat h 0 (by decide)
  have HC := Kp.mk (Kd.C_below h hb2)
  clear h hb0 hb1 hb2
  go_enter Tryz.func119, Tryz.ntmps119
  go_wp2_with (fail)
  go_still_tail 5, (by kernel_rfl)
  refine wpList_copy_splice rfl (.tmp 7) (.tmp 10) 22 22 rfl 5 Tryz.underlying22 (by kernel_rfl) _ _ 4 16 4 c rfl rfl (w.heap.size + 1) 1 (adC Ad.zero) 26 HH.out [.int .u8 x0, .int .u8 x1, .int .u8 x2, .int .u8 x3] rfl
    (fun _ => ⟨rfl, ad, rfl, fun j v hj => ?_⟩) (by show (5 : Nat) ≤ 17; decide) (fun v hv => ?_) (w.heap.size + 1) ((w.alloc (.cells (adC Ad.zero).toArray 26)).alloc (.cells (adC Ad.zero).toArray 26)) (pw_below_drewN (Below.refl _ _) _) (Nat.le_refl _) ?_
  · obtain ⟨hl, hv⟩ := List.getElem?_eq_some_iff.1 hj
    obtain ⟨ad', e1, hcell⟩ := at_nat HC.out j hl
    obtain rfl := Option.some.inj e1
    refine Eq.trans (b := _) hcell ?_
    match j, hl, hv with
    | 0, _, hv | 1, _, hv | 2, _, hv | 3, _, hv => exact congrArg some hv
  · simp at hv
    rcases hv with rfl | rfl | rfl | rfl <;> rfl
  · intro w1 hg1 hb1
    have hg := hg1.out
    have hcs : splice (adC Ad.zero) 1 [.int .u8 x0, .int .u8 x1, .int .u8 x2, .int .u8 x3] = [.bool false, .int .u8 x0, .int .u8 x1, .int .u8 x2, .int .u8 x3, .int .u8 0, .int .u8 0, .int .u8 0, .int .u8 0, .int .u8 0, .int .u8 0, .int .u8 0, .int .u8 0, .int .u8 0, .int .u8 0, .int .u8 0, .int .u8 0] := rfl
    rw [hcs] at hg
    have h0 := (hb1.block _ (Nat.lt_succ_self _)).trans H0.out
    have HB1 := Kp.mk (HB.out.trans (hb1.mono (Nat.le_succ _)))
    have Hg := Kp.mk hg
    have Hh0 := Kp.mk h0
    clear hg hcs h0 HH HC H0 HB hg1
    go_wp2_with (first | (with_reducible refine ld_blk rfl 26 (.tmp 5) rfl (w.heap.size + 1) rfl Hg Tryz.underlying26 rfl (by kernel_rfl) ?_) | (with_reducible refine st_blk (w0 := w) (base := w.heap.size) rfl 26 (.tmp 4) (.tmp 12) rfl rfl w.heap.size _ rfl rfl Hh0 (by kernel_rfl) (by kernel_rfl) (by kernel_rfl) HB1 (Nat.le_refl _) ?_))
    intro w2 Hg2 HO2 HB2 hs2
    clear hs2
    go_wp2
    refine bodyPost_ret (results_cell_row rfl _ _ w.heap.size _ _ (0, 0) _ rfl Hg2.out Tryz.underlying26 rfl (by kernel_rfl)) rfl ?_
    exact ⟨rfl, HB2.out⟩
theorem six_raw (A : Option Addr) (c : Nat) (x0 x1 x2 x3 x4 x5 x6 x7 x8 x9 x10 x11 x12 x13 x14 x15 : Int) (w : World) (h : (Kd.int .u8).C w A 16 [x0, x1, x2, x3, x4, x5, x6, x7, x8, x9, x10, x11, x12, x13, x14, x15]) (hc : 16 ≤ c) :
    Calls Tryz.prog 118 #[.slice A 16 c, .int .i64 0] w fun e w' => e = .returned (.agg #[.bool true, .int .u8 x0, .int .u8 x1, .int .u8 x2, .int .u8 x3, .int .u8 x4, .int .u8 x5, .int .u8 x6, .int .u8 x7, .int .u8 x8, .int .u8 x9, .int .u8 x10, .int .u8 x11, .int .u8 x12, .int .u8 x13, .int .u8 x14, .int .u8 x15]) ∧ Below w.heap.size w w' := by
  obtain ⟨hb0, hb1, hb2⟩ := two_new w (.cells (adC Ad.zero).toArray 26) (.cells (adC ⟨true, fun _ => 0⟩).toArray 26)
  have H0 := Kp.mk hb0
  have HH := Kp.mk hb1
  have HB := Kp.mk hb2
  obtain ⟨ad, rfl, -⟩ := at_nat h 0 (by decide)
  have HC := Kp.mk (Kd.C_below h hb2)
  clear h hb0 hb1 hb2
  go_enter Tryz.func118, Tryz.ntmps118
  go_wp2_with (fail)
  go_still_tail 5, (by kernel_rfl)
  refine wpList_copy_splice rfl (.tmp 8) (.tmp 11) 22 22 rfl 5 Tryz.underlying22 (by kernel_rfl) _ _ 16 16 16 c rfl rfl (w.heap.size + 1) 1 (adC ⟨true, fun _ => 0⟩) 26 HH.out [.int .u8 x0, .int .u8 x1, .int .u8 x2, .int .u8 x3, .int .u8 x4, .int .u8 x5, .int .u8 x6, .int .u8 x7, .int .u8 x8, .int .u8 x9, .int .u8 x10, .int .u8 x11, .int .u8 x12, .int .u8 x13, .int .u8 x14, .int .u8 x15] rfl
    (fun _ => ⟨rfl, ad, rfl, fun j v hj => ?_⟩) (by show (17 : Nat) ≤ 17; decide) (fun v hv => ?_) (w.heap.size + 1) ((w.alloc (.cells (adC Ad.zero).toArray 26)).alloc (.cells (adC ⟨true, fun _ => 0⟩).toArray 26)) (pw_below_drewN (Below.refl _ _) _) (Nat.le_refl _) ?_
  · obtain ⟨hl, hv⟩ := List.getElem?_eq_some_iff.1 hj
    obtain ⟨ad', e1, hcell⟩ := at_nat HC.out j hl
    obtain rfl := Option.some.inj e1
    refine Eq.trans (b := _) hcell ?_
    have hl' : j < 16 := hl
    match j, hl', hl, hv with
    | 0, _, _, hv | 1, _, _, hv | 2, _, _, hv | 3, _, _, hv | 4, _, _, hv | 5, _, _, hv | 6, _, _, hv | 7, _, _, hv | 8, _, _, hv | 9, _, _, hv | 10, _, _, hv | 11, _, _, hv | 12, _, _, hv | 13, _, _, hv | 14, _, _, hv | 15, _, _, hv => exact congrArg some hv
  · simp at hv
    rcases hv with rfl | rfl | rfl | rfl | rfl | rfl | rfl | rfl | rfl | rfl | rfl | rfl | rfl | rfl | rfl | rfl <;> rfl
  · intro w1 hg1 hb1
    have hg := hg1.out
    have hcs : splice (adC ⟨true, fun _ => 0⟩) 1 [.int .u8 x0, .int .u8 x1, .int .u8 x2, .int .u8 x3, .int .u8 x4, .int .u8 x5, .int .u8 x6, .int .u8 x7, .int .u8 x8, .int .u8 x9, .int .u8 x10, .int .u8 x11, .int .u8 x12, .int .u8 x13, .int .u8 x14, .int .u8 x15] = [.bool true, .int .u8 x0, .int .u8 x1, .int .u8 x2, .int .u8 x3, .int .u8 x4, .int .u8 x5, .int .u8 x6, .int .u8 x7, .int .u8 x8, .int .u8 x9, .int .u8 x10, .int .u8 x11, .int .u8 x12, .int .u8 x13, .int .u8 x14, .int .u8 x15] := rfl
    rw [hcs] at hg
    have h0 := (hb1.block _ (Nat.lt_succ_self _)).trans H0.out
    have HB1 := Kp.mk (HB.out.trans (hb1.mono (Nat.le_succ _)))
    have Hg := Kp.mk hg
    have Hh0 := Kp.mk h0
    clear hg hcs h0 HH HC H0 HB hg1
    go_wp2_with (first | (with_reducible refine ld_blk rfl 26 (.tmp 5) rfl (w.heap.size + 1) rfl Hg Tryz.underlying26 rfl (by kernel_rfl) ?_) | (with_reducible refine st_blk (w0 := w) (base := w.heap.size) rfl 26 (.tmp 4) (.tmp 13) rfl rfl w.heap.size _ rfl rfl Hh0 (by kernel_rfl) (by kernel_rfl) (by kernel_rfl) HB1 (Nat.le_refl _) ?_))
    intro w2 Hg2 HO2 HB2 hs2
    clear hs2
    go_wp2
    refine bodyPost_ret (results_cell_row rfl _ _ w.heap.size _ _ (0, 0) _ rfl Hg2.out Tryz.underlying26 rfl (by kernel_rfl)) rfl ?_
    exact ⟨rfl, HB2.out⟩
/-- The address of a type, out of as many bytes as it has. -/
theorem address_calls (t : Int) (A : Option Addr) (c : Nat) (d : List Int) (w : World) (h : (Kd.int .u8).C w A d.length d) (hc : d.length ≤ c) (hd : szT t = d.length) (ht : szT t ≠ 0) :
    Calls Tryz.prog 85 #[.int .i64 t, .slice A d.length c] w fun e w' => e = .returned (.agg #[.bool (adOf t d).v6, .int .u8 ((adOf t d).b 0), .int .u8 ((adOf t d).b 1), .int .u8 ((adOf t d).b 2), .int .u8 ((adOf t d).b 3), .int .u8 ((adOf t d).b 4), .int .u8 ((adOf t d).b 5), .int .u8 ((adOf t d).b 6), .int .u8 ((adOf t d).b 7), .int .u8 ((adOf t d).b 8), .int .u8 ((adOf t d).b 9), .int .u8 ((adOf t d).b 10), .int .u8 ((adOf t d).b 11), .int .u8 ((adOf t d).b 12), .int .u8 ((adOf t d).b 13), .int .u8 ((adOf t d).b 14), .int .u8 ((adOf t d).b 15)]) ∧ Below w.heap.size w w' := by
  by_cases h28 : t = 28
  · subst h28
    have hl : d.length = 16 := by have : szT 28 = 16 := rfl; omega
    match d, hl with
    | [x0, x1, x2, x3, x4, x5, x6, x7, x8, x9, x10, x11, x12, x13, x14, x15], _ =>
      have H := Kp.mk (six_raw A c x0 x1 x2 x3 x4 x5 x6 x7 x8 x9 x10 x11 x12 x13 x14 x15 (w.alloc (.cells (adC Ad.zero).toArray 26)) (Kd.C_below h ((Below.refl _ _).alloc (Nat.le_refl _) _)) hc)
      have Hh0 := Kp.mk (heap_new w (.cells (adC Ad.zero).toArray 26))
      clear h hd ht hl
      show Calls Tryz.prog 85 #[.int .i64 28, .slice A 16 c] w fun e w' => e = .returned (.agg #[.bool true, .int .u8 x0, .int .u8 x1, .int .u8 x2, .int .u8 x3, .int .u8 x4, .int .u8 x5, .int .u8 x6, .int .u8 x7, .int .u8 x8, .int .u8 x9, .int .u8 x10, .int .u8 x11, .int .u8 x12, .int .u8 x13, .int .u8 x14, .int .u8 x15]) ∧ Below w.heap.size w w'
      go_enter Tryz.func85, Tryz.ntmps85
      go_wp2_with (fail)
      refine H.out.mono ?_
      rintro e w1 ⟨rfl, hb⟩
      have HB1 := Kp.mk (((Below.refl w.heap.size w).alloc (Nat.le_refl _) _).trans (hb.mono (by simp)))
      have Hh1 := Kp.mk ((hb.block _ (heap_lt Hh0.out)).trans Hh0.out)
      clear hb Hh0 H
      go_wp2_with (with_reducible refine st_blk (w0 := w) (base := w.heap.size) rfl 26 (.tmp 4) (.tmp 8) rfl rfl w.heap.size _ rfl rfl Hh1 (by kernel_rfl) (by kernel_rfl) (by kernel_rfl) HB1 (Nat.le_refl _) ?_)
      intro w2 Hg2 HO2 HB2 hs2
      clear hs2
      go_wp2
      refine bodyPost_ret (results_cell_row rfl _ _ w.heap.size _ _ (0, 0) _ rfl Hg2.out Tryz.underlying26 rfl (by kernel_rfl)) rfl ?_
      exact ⟨rfl, HB2.out⟩
  · have h1 : t = 1 := by unfold szT at ht; split at ht <;> first | omega | (split at ht <;> omega)
    subst h1
    have hl : d.length = 4 := by have : szT 1 = 4 := rfl; omega
    match d, hl with
    | [x0, x1, x2, x3], _ =>
      have H := Kp.mk (four_raw A c x0 x1 x2 x3 (w.alloc (.cells (adC Ad.zero).toArray 26)) (Kd.C_below h ((Below.refl _ _).alloc (Nat.le_refl _) _)) hc)
      have Hh0 := Kp.mk (heap_new w (.cells (adC Ad.zero).toArray 26))
      clear h hd ht hl h28
      show Calls Tryz.prog 85 #[.int .i64 1, .slice A 4 c] w fun e w' => e = .returned (.agg #[.bool false, .int .u8 x0, .int .u8 x1, .int .u8 x2, .int .u8 x3, .int .u8 0, .int .u8 0, .int .u8 0, .int .u8 0, .int .u8 0, .int .u8 0, .int .u8 0, .int .u8 0, .int .u8 0, .int .u8 0, .int .u8 0, .int .u8 0]) ∧ Below w.heap.size w w'
      go_enter Tryz.func85, Tryz.ntmps85
      go_wp2_with (fail)
      refine H.out.mono ?_
      rintro e w1 ⟨rfl, hb⟩
      have HB1 := Kp.mk (((Below.refl w.heap.size w).alloc (Nat.le_refl _) _).trans (hb.mono (by simp)))
      have Hh1 := Kp.mk ((hb.block _ (heap_lt Hh0.out)).trans Hh0.out)
      clear hb Hh0 H
      go_wp2_with (with_reducible refine st_blk (w0 := w) (base := w.heap.size) rfl 26 (.tmp 4) (.tmp 10) rfl rfl w.heap.size _ rfl rfl Hh1 (by kernel_rfl) (by kernel_rfl) (by kernel_rfl) HB1 (Nat.le_refl _) ?_)
      intro w2 Hg2 HO2 HB2 hs2
      clear hs2
      go_wp2
      refine bodyPost_ret (results_cell_row rfl _ _ w.heap.size _ _ (0, 0) _ rfl Hg2.out Tryz.underlying26 rfl (by kernel_rfl)) rfl ?_
      exact ⟨rfl, HB2.out⟩
end Go.Proofs.YtlkneoednkhleaaGreatDoor

namespace Go.Proofs.YtlkneoednkhleaaGreatDoor
open Go.RowKit Go.Proofs.YtlkneoednkhleaaGreatDoorW.PrintWords
set_option linter.unusedVariables false
set_option linter.unusedSimpArgs false
set_option maxRecDepth 100000
set_option maxHeartbeats 1000000

theorem u32_calls (A : Option Addr) (c : Nat) (xs : List Int) (a : Int) (w : World) (h : (Kd.int .u8).C w A xs.length xs) (hx8 : Byts xs) (hc : xs.length ≤ c) (hcm : c ≤ 9223372036854775807) (hE : Env w) (hl : xs.length ≤ 140737488355328) (h1 : -9223372036854775808 ≤ a) (h2 : a ≤ 9223372036854775807) :
    Calls Tryz.prog 44 #[.slice A xs.length c, .int .i64 a] w (Gives2 (Kd.int .u32) erK (numV xs a 4) (partE xs.length a 4) w) := by
  have H := Kp.mk (number_calls A c xs a 4 w h hx8 hc hcm hE hl h1 h2 (by omega) (by omega))
  clear h hx8 hE
  go_enter Tryz.func44, Tryz.ntmps44
  go_wp2_with (fail)
  refine H.out.mono ?_
  rintro e w1 ⟨v1, v2, rfl, hm1, hm2, hb⟩
  obtain rfl : v1 = .int .u32 (numV xs a 4) := List.singleton_inj.1 hm1
  have HM := Kp.mk hm2
  have HB := Kp.mk hb
  clear hm1 hm2 hb
  go_wp2
  go_ret2
  exact ⟨_, _, rfl, rfl, HM.out, HB.out⟩
/-- Read, at any place. -/
theorem readN_calls (A : Option Addr) (c : Nat) (xs : List Int) (a : Int) (w : World) (nm : L) (en : Int) (er : Er) (h : (Kd.int .u8).C w A xs.length xs) (hx8 : Byts xs) (hc : xs.length ≤ c) (hcm : c ≤ 9223372036854775807) (hE : Env w) (hl : xs.length ≤ 140737488355328)
    (ha : a ≤ 9223372036854775807) (hr : readN xs a = (nm, en, er)) :
    Calls Tryz.prog 40 #[.slice A xs.length c, .int .i64 a] w (Gives3 Kd.string (Kd.int .i64) erK (mkB nm) en er w) := by
  unfold readN at hr
  by_cases h0 : a < 0
  · rw [if_pos h0] at hr
    obtain ⟨rfl, rfl, rfl⟩ : ([] : L) = nm ∧ (0 : Int) = en ∧ Er.code 1 = er := by simpa using hr
    exact read_neg A xs.length c a w h0
  · rw [if_neg h0] at hr
    exact read_calls A c xs a w nm en er h hx8 hc hcm hE hl (by omega) ha hr
def QuPost (q : Qu) (n : Int) (er : Er) (w : World) (e : Ending) (w' : World) : Prop :=
  ∃ v, e = .returned (.tuple #[.agg #[.string (mkB q.name), .int .i64 q.typ, .int .i64 q.cls], .int .i64 n, v]) ∧ erK.M w' w.heap.size (fun _ => True) er [v] ∧ Below w.heap.size w w'

theorem quRead_calls (A : Option Addr) (c : Nat) (xs : List Int) (a : Int) (w : World) (q : Qu) (n : Int) (er : Er) (h : (Kd.int .u8).C w A xs.length xs) (hx8 : Byts xs) (hc : xs.length ≤ c) (hcm : c ≤ 9223372036854775807) (hE : Env w) (hl : xs.length ≤ 140737488355328)
    (ha : a ≤ 9223372036854775807) (hr : quR xs a = (q, n, er)) :
    Calls Tryz.prog 11 #[.slice A xs.length c, .int .i64 a] w (QuPost q n er w) := by
  have HS := Kp.mk ((St.start hE).alloc (.cells #[.string ⟨#[]⟩, .int .i64 0, .int .i64 0] 30))
  have HC := Kp.mk h
  have HX := Kp.mk hx8
  have hen := readN_end xs a hx8
  have Hg0 := Kp.mk (heap_new w (.cells #[.string ⟨#[]⟩, .int .i64 0, .int .i64 0] 30))
  unfold quR at hr
  obtain ⟨nm, en, e0, hrn⟩ : ∃ nm en e0, readN xs a = (nm, en, e0) := ⟨_, _, _, rfl⟩
  rw [hrn] at hr hen
  dsimp only at hr hen
  have HRN := Kp.mk hrn
  have HQ := Kp.mk hr
  clear h hx8 hE hr hrn
  go_enter Tryz.func11, Tryz.ntmps11
  go_wp2_with (fail)
  refine gsie_ (readN_calls A c xs a _ nm en e0 (Kd.C_below HC.out HS.out.below) HX.out hc hcm HS.out.env hl ha HRN.out) HS ?_
  intro v1 w1 HM1 HB1 HS1
  have Hg1 := Kp.mk ((HB1.out.block _ (heap_lt Hg0.out)).trans Hg0.out)
  by_cases g1 : e0 = .none
  · subst g1
    obtain rfl := er_open_none (erK.K_of_M HM1.out)
    have hr := HQ.out
    rw [if_neg (by simp)] at hr
    have HQ1 := Kp.mk hr
    clear hr HQ HM1
    go_wp2_with (fail)
    refine g2_ (u16_calls A c xs en _ (Kd.C_below HC.out HS1.out.below) HX.out hc hcm HS1.out.env hl (by omega) (by omega)) HS1 ?_
    intro v2 v2e w2 HM2 HM2e HB2 HS2
    obtain rfl : v2 = .int .i64 (numV xs en 2) := List.singleton_inj.1 HM2.out
    have Hg2 := Kp.mk ((HB2.out.block _ (heap_lt Hg1.out)).trans Hg1.out)
    obtain ⟨p2, hp2⟩ : ∃ p, partE xs.length en 2 = p := ⟨_, rfl⟩
    have hq := HQ1.out
    rw [hp2] at HM2e hq
    clear HM2 hp2
    by_cases g2 : p2 = .none
    · subst g2
      obtain rfl := er_open_none (erK.K_of_M HM2e.out)
      rw [if_neg (by simp)] at hq
      have HQ2 := Kp.mk hq
      clear hq HQ1 HM2e
      go_wp2_with (fail)
      refine g2_ (u16_calls A c xs (en + 2) _ (Kd.C_below HC.out HS2.out.below) HX.out hc hcm HS2.out.env hl (by omega) (by omega)) HS2 ?_
      intro v3 v3e w3 HM3 HM3e HB3 HS3
      obtain rfl : v3 = .int .i64 (numV xs (en + 2) 2) := List.singleton_inj.1 HM3.out
      have Hg3 := Kp.mk ((HB3.out.block _ (heap_lt Hg2.out)).trans Hg2.out)
      have HW3 := Kp.mk HS3.out.below
      obtain ⟨p3, hp3⟩ : ∃ p, partE xs.length (en + 2) 2 = p := ⟨_, rfl⟩
      have hq := HQ2.out
      rw [hp3] at HM3e hq
      clear HM3
      by_cases g3 : p3 = .none
      · subst g3
        have hle := partE_none hp3
        clear hp3
        obtain rfl := er_open_none (erK.K_of_M HM3e.out)
        rw [if_neg (by simp)] at hq
        obtain ⟨rfl, rfl, rfl⟩ : (⟨nm, numV xs en 2, numV xs (en + 2) 2⟩ : Qu) = q ∧ en + 4 = n ∧ Er.none = er := by simpa using hq
        clear hq HQ2 HM3e
        go_wp2_with (with_reducible refine st_blk (w0 := w) (base := w.heap.size) rfl 30 (.tmp 4) (.tmp 46) rfl rfl w.heap.size _ rfl rfl Hg3 (by kernel_rfl) (by kernel_rfl) (by kernel_rfl) HW3 (Nat.le_refl _) ?_)
        intro w4 Hg4 HO4 HB4 hs4
        clear hs4
        go_wp2
        refine bodyPost_ret (results_ctt rfl _ _ w.heap.size _ _ (0, 0) _ rfl Hg4.out Tryz.underlying30 rfl (by kernel_rfl)) rfl ?_
        exact ⟨_, rfl, er_none _ _ _, HB4.out⟩
      · obtain ⟨T, u, rfl⟩ := er_some (erK.K_of_M HM3e.out) g3
        rw [if_pos g3] at hq
        obtain ⟨rfl, rfl, rfl⟩ : Qu.zero = q ∧ (0 : Int) = n ∧ p3 = er := by simpa using hq
        clear hq HQ2 hp3
        go_wp2_with (with_reducible refine st_blk (w0 := w) (base := w.heap.size) rfl 30 (.tmp 4) (.tmp 41) rfl rfl w.heap.size _ rfl rfl Hg3 (by kernel_rfl) (by kernel_rfl) (by kernel_rfl) HW3 (Nat.le_refl _) ?_)
        intro w4 Hg4 HO4 HB4 hs4
        clear hs4
        go_wp2
        refine bodyPost_ret (results_ctt rfl _ _ w.heap.size _ _ (0, 0) _ rfl Hg4.out Tryz.underlying30 rfl (by kernel_rfl)) rfl ?_
        exact ⟨_, rfl, erK.M_lower (Nat.le_of_lt (by have := HS2.out.size; have := heap_lt Hg2.out; omega)) (M_stored HM3e.out (heap_lt Hg2.out) HO4.out), HB4.out⟩
    · have HW2 := Kp.mk HS2.out.below
      obtain ⟨T, u, rfl⟩ := er_some (erK.K_of_M HM2e.out) g2
      rw [if_pos g2] at hq
      obtain ⟨rfl, rfl, rfl⟩ : Qu.zero = q ∧ (0 : Int) = n ∧ p2 = er := by simpa using hq
      clear hq HQ1
      go_wp2_with (with_reducible refine st_blk (w0 := w) (base := w.heap.size) rfl 30 (.tmp 4) (.tmp 30) rfl rfl w.heap.size _ rfl rfl Hg2 (by kernel_rfl) (by kernel_rfl) (by kernel_rfl) HW2 (Nat.le_refl _) ?_)
      intro w4 Hg4 HO4 HB4 hs4
      clear hs4
      go_wp2
      refine bodyPost_ret (results_ctt rfl _ _ w.heap.size _ _ (0, 0) _ rfl Hg4.out Tryz.underlying30 rfl (by kernel_rfl)) rfl ?_
      exact ⟨_, rfl, erK.M_lower (Nat.le_of_lt (heap_lt Hg1.out)) (M_stored HM2e.out (heap_lt Hg1.out) HO4.out), HB4.out⟩
  · have HW1 := Kp.mk HS1.out.below
    obtain ⟨T, u, rfl⟩ := er_some (erK.K_of_M HM1.out) g1
    have hq := HQ.out
    rw [if_pos g1] at hq
    obtain ⟨rfl, rfl, rfl⟩ : Qu.zero = q ∧ (0 : Int) = n ∧ e0 = er := by simpa using hq
    clear hq HQ
    go_wp2_with (with_reducible refine st_blk (w0 := w) (base := w.heap.size) rfl 30 (.tmp 4) (.tmp 20) rfl rfl w.heap.size _ rfl rfl Hg1 (by kernel_rfl) (by kernel_rfl) (by kernel_rfl) HW1 (Nat.le_refl _) ?_)
    intro w4 Hg4 HO4 HB4 hs4
    clear hs4
    go_wp2
    refine bodyPost_ret (results_ctt rfl _ _ w.heap.size _ _ (0, 0) _ rfl Hg4.out Tryz.underlying30 rfl (by kernel_rfl)) rfl ?_
    exact ⟨_, rfl, erK.M_lower (Nat.le_of_lt (heap_lt Hg0.out)) (M_stored HM1.out (heap_lt Hg0.out) HO4.out), HB4.out⟩
end Go.Proofs.YtlkneoednkhleaaGreatDoor

namespace Go.Proofs.YtlkneoednkhleaaGreatDoor
open Go.RowKit Go.Proofs.YtlkneoednkhleaaGreatDoorW.PrintWords
set_option linter.unusedVariables false
set_option linter.unusedSimpArgs false
set_option maxRecDepth 100000
set_option maxHeartbeats 1000000

theorem sz_calls (t : Int) (w : World) : Calls Tryz.prog 84 #[.int .i64 t] w fun e w' => e = .returned (.int .i64 (szT t)) ∧ w = w' := by
  by_cases h1 : t = 28
  · subst h1
    go_enter Tryz.func84, Tryz.ntmps84
    go_wp2
    go_ret
    exact ⟨rfl, rfl⟩
  · have b1 : (t == 28) = false := by simpa using h1
    by_cases h2 : t = 1
    · subst h2
      go_enter Tryz.func84, Tryz.ntmps84
      go_wp2
      go_ret
      exact ⟨rfl, rfl⟩
    · have b2 : (t == 1) = false := by simpa using h2
      have hs : szT t = 0 := by unfold szT; rw [if_neg h1, if_neg h2]
      rw [hs]
      clear hs
      go_enter Tryz.func84, Tryz.ntmps84
      go_wp2
      go_ret
      exact ⟨rfl, rfl⟩
/-- How a record lies in a block of its own. -/
structure RecIn (w : World) (B g : Nat) (r : Rec) (v : Value) : Prop where
  le : B ≤ g
  blk : w.heap[g]? = some (.cells (recA r v) 28 (0, 0))
  row : (Kd.int .u8).R 5 w B (fun k => k ≠ g) v r.data
def FillPost (w : World) (B g : Nat) (r : Rec) (n : Int) (er : Er) (ev : Ending) (w' : World) : Prop :=
  (∃ u, ev = .returned (.tuple #[.int .i64 n, u]) ∧ erK.M w' B (fun k => k ≠ g) er [u]) ∧ Below B w w' ∧ w.heap.size ≤ w'.heap.size ∧ (er = .none → ∃ v, RecIn w' B g r v)
theorem fill_calls (g B : Nat) (A : Option Addr) (c : Nat) (xs : List Int) (a : Int) (w : World) (r r' : Rec) (v0 : Value) (n : Int) (er : Er) (hw : RecIn w B g r v0) (h : (Kd.int .u8).C w A xs.length xs) (hx8 : Byts xs) (hc : xs.length ≤ c) (hcm : c ≤ 9223372036854775807) (hE : Env w) (hl : xs.length ≤ 140737488355328)
    (h0 : 0 ≤ a) (ha : a ≤ 9223372036854000000) (hB : B ≤ w.heap.size) (hr : fillR xs a r = (r', n, er)) :
    Calls Tryz.prog 45 #[.pointer (some ⟨g, 0, none⟩), .slice A xs.length c, .int .i64 a] w (FillPost w B g r' n er) := by
  have HS := Kp.mk (St.start hE)
  have HC := Kp.mk h
  have HX := Kp.mk hx8
  have HW := Kp.mk hw
  have hnr := num_range xs a 2 hx8 (.inl rfl)
  obtain ⟨rn, rt, rc, rl, rad, rtg, rd⟩ := r
  unfold fillR at hr
  obtain ⟨m, hm⟩ : ∃ m, numV xs a 2 = m := ⟨_, rfl⟩
  obtain ⟨p1, hp1⟩ : ∃ p, partE xs.length a 2 = p := ⟨_, rfl⟩
  obtain ⟨d, hd⟩ : ∃ d, partV xs (a + 2) m = d := ⟨_, rfl⟩
  obtain ⟨ad, had⟩ : ∃ ad, adOf rt d = ad := ⟨_, rfl⟩
  rw [hm] at hr hnr
  rw [hp1, hd] at hr
  rw [had] at hr
  have HD := Kp.mk hd
  have HAA := Kp.mk had
  have HM := Kp.mk hm
  have HP1 := Kp.mk hp1
  have HQ := Kp.mk hr
  have hglt := heap_lt hw.blk
  have hm2 := hnr.2.2 rfl
  have hm0 := hnr.1
  clear h hx8 hE hr hw hm hp1 hnr hd had
  go_enter Tryz.func45, Tryz.ntmps45
  go_wp2_with (fail)
  refine g2_ (u16_calls A c xs a _ HC.out HX.out hc hcm HS.out.env hl (by omega) (by omega)) HS ?_
  intro v1 v1e w1 HM1 HM1e HB1 HS1
  rw [HM.out] at HM1
  obtain rfl : v1 = .int .i64 m := List.singleton_inj.1 HM1.out
  rw [HP1.out] at HM1e
  have hq := HQ.out
  clear HM1 HQ
  by_cases g1 : p1 = .none
  case neg =>
    obtain ⟨T, u, rfl⟩ := er_some (erK.K_of_M HM1e.out) g1
    rw [if_pos g1] at hq
    obtain ⟨rfl, rfl, rfl⟩ : _ = r' ∧ (0 : Int) = n ∧ p1 = er := by simpa using hq
    clear hq
    go_wp2
    go_ret2
    exact ⟨⟨_, rfl, erK.M_lower hB (erK.M_mono (fun k hk => by have := hk.2.1; omega) (erK.M_bound HM1e.out))⟩, HS1.out.below.mono hB, HS1.out.size, fun h => absurd h g1⟩
  subst g1
  obtain rfl := er_open_none (erK.K_of_M HM1e.out)
  rw [if_neg (by simp)] at hq
  have hle := partE_none HP1.out
  have HQ1 := Kp.mk hq
  clear hq HM1e
  go_wp2_with (fail)
  refine g2_ (part_calls A c xs (a + 2) m _ (Kd.C_below HC.out HS1.out.below) hc hcm HS1.out.env hl (by omega) (by omega) (by omega)) HS1 ?_
  intro v2 v2e w2 HM2 HM2e HB2 HS2
  rw [HD.out] at HM2
  obtain ⟨A2, c2, rfl, hc2, hC2⟩ := slice_open (bytesK.K_of_M HM2.out)
  have HC2 := Kp.mk hC2
  clear hC2
  have hq := HQ1.out
  clear HQ1
  by_cases g2 : partE xs.length (a + 2) m = .none
  case neg =>
    have hps := partE_some (by omega) hm0 g2
    rw [hps] at HM2e
    rw [if_pos g2] at hq
    obtain ⟨rfl, rfl, rfl⟩ : _ = r' ∧ (0 : Int) = n ∧ Er.fault a 3 = er := by simpa using hq
    clear hq g2 hps
    go_wp2_with (fail)
    refine q_ (is_calls _ _ 3 _ (erK.K_of_M HM2e.out) (by decide) true rfl (by intro h; cases h)) ?_
    go_wp2_with (fail)
    refine (wrap_calls _ _ _).mono ?_
    rintro e3 w3 ⟨rfl, rfl⟩
    go_wp2
    go_ret2
    have hs2 := HS2.out.size
    exact ⟨⟨_, rfl, er_fault (by omega) (by omega) (heap_new _ _)⟩, (HS2.out.below.mono hB).alloc (by omega) _, by simp; omega, fun h => by cases h⟩
  have hle2 := partE_none g2
  rw [g2] at HM2e
  obtain rfl := er_open_none (erK.K_of_M HM2e.out)
  rw [if_neg (by simpa using g2)] at hq
  have HQ2 := Kp.mk hq
  clear hq HM2e g2
  have HW2 := Kp.mk ((HS2.out.below.block _ hglt).trans HW.out.blk)
  have HR2 := Kp.mk (Kd.R_below HW.out.row HS2.out.below)
  have hcell := blk_cell HW2.out 1
  have hs2 := HS2.out.size
  have hgB := HW.out.le
  go_wp2_with (fail)
  refine q_ (is_nil 3 _) ?_
  have hq := HQ2.out
  clear HQ2
  by_cases g5 : rt = 5
  · subst g5
    rw [if_pos rfl] at hq
    obtain ⟨nm, en, e0, hrn⟩ : ∃ nm en e0, readN xs (a + 2) = (nm, en, e0) := ⟨_, _, _, rfl⟩
    rw [hrn] at hq
    dsimp only at hq
    have HRN := Kp.mk hrn
    have HQ3 := Kp.mk hq
    clear hq hrn
    go_wp2_with (fail)
    refine gsie_ (readN_calls A c xs (a + 2) _ nm en e0 (Kd.C_below HC.out HS2.out.below) HX.out hc hcm HS2.out.env hl (by omega) HRN.out) HS2 ?_
    intro v3 w3 HM3 HB3 HS3
    have hs3 := HS3.out.size
    have hq := HQ3.out
    clear HQ3 hcell
    by_cases g3 : e0 = .none
    case neg =>
      obtain ⟨T, u, rfl⟩ := er_some (erK.K_of_M HM3.out) g3
      rw [if_pos g3] at hq
      obtain ⟨rfl, rfl, rfl⟩ : _ = r' ∧ (0 : Int) = n ∧ e0 = er := by simpa using hq
      clear hq
      go_wp2
      go_ret2
      exact ⟨⟨_, rfl, erK.M_lower (by omega) (erK.M_mono (fun k hk => by have := hk.2.1; omega) (erK.M_bound HM3.out))⟩, HS3.out.below.mono hB, hs3, fun h => absurd h g3⟩
    subst g3
    obtain rfl := er_open_none (erK.K_of_M HM3.out)
    rw [if_neg (by simp)] at hq
    have HQ4 := Kp.mk hq
    clear hq HM3
    by_cases g4 : en = a + 2 + m
    case neg =>
      have bq : (en != a + 2 + m) = true := by simpa using g4
      have hq := HQ4.out
      rw [if_pos g4] at hq
      obtain ⟨rfl, rfl, rfl⟩ : _ = r' ∧ (0 : Int) = n ∧ Er.fault a 7 = er := by simpa using hq
      clear hq g4 HQ4
      go_wp2_with (fail)
      refine (wrap_calls _ _ _).mono ?_
      rintro e4 w4 ⟨rfl, rfl⟩
      go_wp2
      go_ret2
      exact ⟨⟨_, rfl, er_fault (by omega) (by omega) (heap_new _ _)⟩, (HS3.out.below.mono hB).alloc (by omega) _, by simp; omega, fun h => by cases h⟩
    have hq := HQ4.out
    rw [if_neg (by simpa using g4)] at hq
    obtain ⟨rfl, rfl, rfl⟩ : _ = r' ∧ a + 2 + m = n ∧ Er.none = er := by simpa using hq
    subst g4
    clear hq HQ4
    have HW3 := Kp.mk ((HB3.out.block _ (heap_lt HW2.out)).trans HW2.out)
    have HR3 := Kp.mk (Kd.R_below HR2.out HB3.out)
    have hc3 := blk_cell HW3.out 21
    have hf3 := blk_frozen HW3.out 21
    go_wp2
    go_ret2
    exact ⟨⟨_, rfl, er_none _ _ _⟩, (HS3.out.below.mono hB).setCell (p := ⟨g, 21, none⟩) hgB _, by simpa using hs3, fun _ => ⟨v0, hgB, blk_put HW3.out 21 _ rfl, Kd.R_far (p := ⟨g, 21, none⟩) HR3.out (fun k hk => hk) _⟩⟩
  · have b5 : (rt == 5) = false := by simpa using g5
    rw [if_neg g5] at hq
    obtain ⟨z, hz⟩ : ∃ z, szT rt = z := ⟨_, rfl⟩
    rw [hz] at hq
    have HZ := Kp.mk hz
    have HQ3 := Kp.mk hq
    clear hq hz
    go_wp2_with (fail)
    refine q_ (sz_calls rt _) ?_
    rw [HZ.out]
    have hq := HQ3.out
    clear HQ3
    have hRD := HM2.out
    obtain ⟨vd, hvd, hR⟩ := hRD
    obtain rfl := List.singleton_inj.1 hvd
    have HRD := Kp.mk (Kd.R_lower (base' := B) (Kd.R_mono (ok' := fun k => k ≠ g) (Kd.R_bound hR) (fun k hk => by have := hk.2.1; have := HS1.out.size; omega)) (by have := HS1.out.size; omega))
    clear hvd hR HM2
    by_cases g6 : z = 0
    · subst g6
      rw [if_pos rfl] at hq
      obtain ⟨rfl, rfl, rfl⟩ : _ = r' ∧ a + 2 + m = n ∧ Er.none = er := by simpa using hq
      have hc3 := blk_cell HW2.out 22
      have hf3 := blk_frozen HW2.out 22
      clear hq
      go_wp2
      go_ret2
      exact ⟨⟨_, rfl, er_none _ _ _⟩, (HS2.out.below.mono hB).setCell (p := ⟨g, 22, none⟩) hgB _, by simpa using hs2, fun _ => ⟨_, hgB, blk_put HW2.out 22 _ rfl, Kd.R_far (p := ⟨g, 22, none⟩) HRD.out (fun k hk => hk) _⟩⟩
    · have b6 : (z == 0) = false := by simpa using g6
      rw [if_neg g6] at hq
      have HQ4 := Kp.mk hq
      clear hq
      go_wp2_with (fail)
      refine q_ (sz_calls rt _) ?_
      rw [HZ.out]
      have hq := HQ4.out
      clear HQ4
      by_cases g7 : z = m
      case neg =>
        have b7 : (z != m) = true := by simpa using g7
        rw [if_pos g7] at hq
        obtain ⟨rfl, rfl, rfl⟩ : _ = r' ∧ (0 : Int) = n ∧ Er.fault a 7 = er := by simpa using hq
        clear hq g7
        go_wp2_with (fail)
        refine (wrap_calls _ _ _).mono ?_
        rintro e4 w4 ⟨rfl, rfl⟩
        go_wp2
        go_ret2
        exact ⟨⟨_, rfl, er_fault (by omega) (by omega) (heap_new _ _)⟩, (HS2.out.below.mono hB).alloc (by omega) _, by simp; omega, fun h => by cases h⟩
      subst g7
      rw [if_neg (by simp)] at hq
      obtain ⟨rfl, rfl, rfl⟩ : _ = r' ∧ a + 2 + z = n ∧ Er.none = er := by simpa using hq
      have hpl : z = (d.length : Int) := by
        rw [← HD.out, partV_ok (by omega) hm0 (hle2.2.2 (by omega)), List.length_take, List.length_drop]
        have := hle2.2.2 (by omega)
        omega
      have HAD := Kp.mk (address_calls rt A2 c2 d w2 HC2.out hc2 (HZ.out.trans hpl) (by rw [HZ.out]; exact g6))
      clear hq hpl
      go_wp2_with (fail)
      refine b_ HAD.out HS2 ?_
      intro w4 HB4 HS4
      have HW4 := Kp.mk ((HB4.out.block _ (heap_lt HW2.out)).trans HW2.out)
      have HR4 := Kp.mk (Kd.R_below HR2.out HB4.out)
      have HE4 := Kp.mk (HS4.out.below.mono hB)
      have hs4 := HS4.out.size
      rw [HAA.out]
      clear hcell HAD
      go_wp2_with (with_reducible refine st_mid (w0 := w) (base := B) rfl 26 (.tmp 50) (.tmp 48) rfl rfl g 4 _ rfl rfl HW4 (by kernel_rfl) (Nat.le_of_ble_eq_true (by kernel_rfl)) (by kernel_rfl) (new := recA ⟨rn, rt, rc, rl, ad, rtg, rd⟩ v0) (by kernel_rfl) HE4 hgB ?_)
      intro w5 Hg5 HO5 HB5 hs5
      have hs5' : w.heap.size ≤ w5.heap.size := by rw [hs5]; exact hs4
      clear hs5
      go_wp2
      go_ret2
      exact ⟨⟨_, rfl, er_none _ _ _⟩, HB5.out, hs5', fun _ => ⟨v0, hgB, Hg5.out, Kd.R_move HR4.out (fun k hk => HO5.out k hk)⟩⟩
def RecPost (r : Rec) (n : Int) (er : Er) (w : World) (e : Ending) (w' : World) : Prop :=
  ∃ dv v, e = .returned (.tuple #[.agg (recA r dv), .int .i64 n, v]) ∧ (Kd.int .u8).R 5 w' w.heap.size (fun _ => True) dv r.data ∧ erK.M w' w.heap.size (fun _ => True) er [v] ∧ Below w.heap.size w w'
theorem recRead_calls (A : Option Addr) (c : Nat) (xs : List Int) (a : Int) (w : World) (r : Rec) (n : Int) (er : Er) (h : (Kd.int .u8).C w A xs.length xs) (hx8 : Byts xs) (hc : xs.length ≤ c) (hcm : c ≤ 9223372036854775807) (hE : Env w) (hl : xs.length ≤ 140737488355328)
    (ha : a ≤ 9223372036854775807) (hr : recR xs a = (r, n, er)) :
    Calls Tryz.prog 13 #[.slice A xs.length c, .int .i64 a] w (RecPost r n er w) := by
  have HS := Kp.mk ((St.start hE).alloc (.cells (recA Rec.zero (.slice none 0 0)) 28))
  have HC := Kp.mk h
  have HX := Kp.mk hx8
  have hen := quR_end xs a hx8
  have Hg0 := Kp.mk (heap_new w (.cells (recA Rec.zero (.slice none 0 0)) 28))
  have hz : w.heap.size < (w.alloc (.cells (recA Rec.zero (.slice none 0 0)) 28)).heap.size := by simp
  unfold recR at hr
  obtain ⟨q, en, e0, hrn⟩ : ∃ q en e0, quR xs a = (q, en, e0) := ⟨_, _, _, rfl⟩
  rw [hrn] at hr hen
  dsimp only at hr hen
  have HRN := Kp.mk hrn
  have HQ := Kp.mk hr
  clear h hx8 hE hr hrn
  go_enter Tryz.func13, Tryz.ntmps13
  go_wp2_with (fail)
  refine (quRead_calls A c xs a _ q en e0 (Kd.C_below HC.out HS.out.below) HX.out hc hcm HS.out.env hl ha HRN.out).mono ?_
  rintro e1 w1 ⟨v1, rfl, hm1, hb1⟩
  have HM1 := Kp.mk hm1
  have HS1 := Kp.mk (HS.out.step hb1)
  have Hg1 := Kp.mk ((hb1.block _ (heap_lt Hg0.out)).trans Hg0.out)
  have hz1 : w.heap.size < w1.heap.size := Nat.lt_of_lt_of_le hz hb1.size
  have HZ := Kp.mk hz
  clear hm1 hb1 hz
  obtain ⟨qn, qt, qc⟩ := q
  dsimp only at hen HM1 ⊢
  have Hq1 := Kp.mk (heap_new w1 (.cells #[.string (mkB qn), .int .i64 qt, .int .i64 qc] 30))
  have HS1a := Kp.mk (HS1.out.alloc (.cells #[.string (mkB qn), .int .i64 qt, .int .i64 qc] 30))
  have HBa := Kp.mk ((Below.refl w1.heap.size w1).alloc (Nat.le_refl _) (.cells #[.string (mkB qn), .int .i64 qt, .int .i64 qc] 30))
  have Hg1a := Kp.mk ((HBa.out.block _ (heap_lt Hg1.out)).trans Hg1.out)
  have hq := HQ.out
  clear HQ
  by_cases g1 : e0 = .none
  case neg =>
    obtain ⟨T, u, rfl⟩ := er_some (erK.K_of_M HM1.out) g1
    rw [if_pos g1] at hq
    obtain ⟨rfl, rfl, rfl⟩ : Rec.zero = r ∧ (0 : Int) = n ∧ e0 = er := by simpa using hq
    have HE1 := Kp.mk (Kd.M_below HM1.out HBa.out)
    have HL1 := Kp.mk HS1a.out.below
    clear hq
    go_wp2_with (with_reducible refine st_blk (w0 := w) (base := w.heap.size) rfl 28 (.tmp 4) (.tmp 21) rfl rfl w.heap.size _ rfl rfl Hg1a (by kernel_rfl) (by kernel_rfl) (by kernel_rfl) HL1 (Nat.le_refl _) ?_)
    intro w4 Hg4 HO4 HB4 hs4
    clear hs4
    go_wp2
    refine bodyPost_ret (results_ctt rfl _ _ w.heap.size _ _ (0, 0) _ rfl Hg4.out Tryz.underlying28 rfl (by kernel_rfl)) rfl ?_
    exact ⟨_, _, rfl, Kd.R_nil _ _ _ _ _, erK.M_lower (Nat.le_of_lt HZ.out) (M_stored HE1.out HZ.out HO4.out), HB4.out⟩
  subst g1
  obtain rfl := er_open_none (erK.K_of_M HM1.out)
  rw [if_neg (by simp)] at hq
  obtain ⟨ttl, ht⟩ : ∃ t, numV xs en 4 = t := ⟨_, rfl⟩
  rw [ht] at hq
  have HT := Kp.mk ht
  have HQ1 := Kp.mk hq
  clear hq HM1 ht
  go_wp2_with (fail)
  refine g2_ (u32_calls A c xs en _ (Kd.C_below HC.out HS1a.out.below) HX.out hc hcm HS1a.out.env hl (by omega) (by omega)) HS1a ?_
  intro v2 v2e w2 HM2 HM2e HB2 HS2
  rw [HT.out] at HM2
  obtain rfl : v2 = .int .u32 ttl := List.singleton_inj.1 HM2.out
  have Hg2 := Kp.mk ((HB2.out.block _ (heap_lt Hg1a.out)).trans Hg1a.out)
  have hz2 : w1.heap.size < w2.heap.size := by have := HB2.out.size; simp at this; omega
  have HZ2 : Kp (w.heap.size < (w1.alloc (.cells #[.string (mkB qn), .int .i64 qt, .int .i64 qc] 30)).heap.size) := ⟨by simp; omega⟩
  obtain ⟨p2, hp2⟩ : ∃ p, partE xs.length en 4 = p := ⟨_, rfl⟩
  have hq := HQ1.out
  rw [hp2] at HM2e hq
  clear HM2 HQ1
  by_cases g2 : p2 = .none
  case neg =>
    have HW2 := Kp.mk HS2.out.below
    obtain ⟨T, u, rfl⟩ := er_some (erK.K_of_M HM2e.out) g2
    rw [if_pos g2] at hq
    obtain ⟨rfl, rfl, rfl⟩ : Rec.zero = r ∧ (0 : Int) = n ∧ p2 = er := by simpa using hq
    clear hq hp2
    go_wp2_with (with_reducible refine st_blk (w0 := w) (base := w.heap.size) rfl 28 (.tmp 4) (.tmp 31) rfl rfl w.heap.size _ rfl rfl Hg2 (by kernel_rfl) (by kernel_rfl) (by kernel_rfl) HW2 (Nat.le_refl _) ?_)
    intro w4 Hg4 HO4 HB4 hs4
    clear hs4
    go_wp2
    refine bodyPost_ret (results_ctt rfl _ _ w.heap.size _ _ (0, 0) _ rfl Hg4.out Tryz.underlying28 rfl (by kernel_rfl)) rfl ?_
    exact ⟨_, _, rfl, Kd.R_nil _ _ _ _ _, erK.M_lower (Nat.le_of_lt HZ2.out) (M_stored HM2e.out HZ2.out HO4.out), HB4.out⟩
  subst g2
  have hle := partE_none hp2
  clear hp2
  obtain rfl := er_open_none (erK.K_of_M HM2e.out)
  rw [if_neg (by simp)] at hq
  have hz0 : ({ Rec.zero with name := qn, typ := qt, cls := qc, ttl := ttl } : Rec) = ⟨qn, qt, qc, ttl, Ad.zero, [], []⟩ := rfl
  rw [hz0] at hq
  obtain ⟨fr, fn, fe, hf⟩ : ∃ fr fn fe, fillR xs (en + 4) ⟨qn, qt, qc, ttl, Ad.zero, [], []⟩ = (fr, fn, fe) := ⟨_, _, _, rfl⟩
  rw [hf] at hq
  dsimp only at hq
  have HF := Kp.mk hf
  have HQ2 := Kp.mk hq
  have hq2 := (HB2.out.block _ (heap_lt Hq1.out)).trans Hq1.out
  have q0 := blk_cell hq2 0
  have q1 := blk_cell hq2 1
  have q2 := blk_cell hq2 2
  have HL2 := Kp.mk (HS2.out.below.alloc HS2.out.size (.cells #[.string ⟨#[]⟩, .int .i64 0, .int .i64 0, .int .u32 0, .bool false, .int .u8 0, .int .u8 0, .int .u8 0, .int .u8 0, .int .u8 0, .int .u8 0, .int .u8 0, .int .u8 0, .int .u8 0, .int .u8 0, .int .u8 0, .int .u8 0, .int .u8 0, .int .u8 0, .int .u8 0, .int .u8 0, .string ⟨#[]⟩, .slice none 0 0] 28))
  have hwz2 : w.heap.size < w2.heap.size := Nat.lt_trans hz1 hz2
  have HB2a := Kp.mk ((Below.refl w2.heap.size w2).alloc (Nat.le_refl _) (.cells #[.string ⟨#[]⟩, .int .i64 0, .int .i64 0, .int .u32 0, .bool false, .int .u8 0, .int .u8 0, .int .u8 0, .int .u8 0, .int .u8 0, .int .u8 0, .int .u8 0, .int .u8 0, .int .u8 0, .int .u8 0, .int .u8 0, .int .u8 0, .int .u8 0, .int .u8 0, .int .u8 0, .int .u8 0, .string ⟨#[]⟩, .slice none 0 0] 28))
  clear hq hf HM2e hq2 hz0
  go_wp2_with (with_reducible refine st_blk (w0 := w) (base := w.heap.size) rfl 28 (.tmp 10) (.tmp 40) rfl rfl w2.heap.size _ rfl rfl ⟨heap_new _ _⟩ (by kernel_rfl) (by kernel_rfl) (by kernel_rfl) HL2 (Nat.le_of_lt hwz2) ?_)
  intro wa Hga HOa HBa2 hsa
  have HS2a : Kp (St w wa) := ⟨⟨HBa2.out, HS2.out.env.below ⟨by have h1 := HBa2.out.os; have h2 := HS2.out.below.os; exact h1.trans h2.symm, HBa2.out.tape.trans HS2.out.below.tape.symm, HBa2.out.output.trans HS2.out.below.output.symm, by rw [hsa]; simp, fun k hk => (HOa.out k (by omega)).trans (HB2a.out.block k hk)⟩⟩⟩
  have Hf : Kp (RecIn wa w2.heap.size w2.heap.size ⟨qn, qt, qc, ttl, Ad.zero, [], []⟩ (.slice none 0 0)) := ⟨Nat.le_refl _, Hga.out, Kd.R_nil _ _ _ _ _⟩
  have hsz : w2.heap.size ≤ wa.heap.size := by rw [hsa]; simp
  have Hg2a := Kp.mk (((HOa.out _ (by omega)).trans (HB2a.out.block _ hwz2)).trans Hg2.out)
  clear hsa HL2 HB2a q0 q1 q2
  go_wp2_with (fail)
  refine (fill_calls w2.heap.size w2.heap.size A c xs (en + 4) _ _ fr _ fn fe Hf.out (Kd.C_below HC.out HS2a.out.below) HX.out hc hcm HS2a.out.env hl (by omega) (by omega) hsz HF.out).mono ?_
  rintro e3 w3 ⟨⟨v3, rfl, hm3⟩, hb3, hs3, hr3⟩
  have HM3 := Kp.mk hm3
  have HB3 := Kp.mk hb3
  have HR3 := Kp.mk hr3
  have Hg3 := Kp.mk ((hb3.block _ hwz2).trans Hg2a.out)
  have HL3 := Kp.mk (HS2a.out.below.trans (hb3.mono (Nat.le_of_lt hwz2)))
  have hq := HQ2.out
  clear hm3 hb3 hr3 HQ2
  by_cases g3 : fe = .none
  case neg =>
    obtain ⟨T, u, rfl⟩ := er_some (erK.K_of_M HM3.out) g3
    rw [if_pos g3] at hq
    obtain ⟨rfl, rfl, rfl⟩ : Rec.zero = r ∧ (0 : Int) = n ∧ fe = er := by simpa using hq
    clear hq
    go_wp2_with (with_reducible refine st_blk (w0 := w) (base := w.heap.size) rfl 28 (.tmp 4) (.tmp 50) rfl rfl w.heap.size _ rfl rfl Hg3 (by kernel_rfl) (by kernel_rfl) (by kernel_rfl) HL3 (Nat.le_refl _) ?_)
    intro w4 Hg4 HO4 HB4 hs4
    clear hs4
    go_wp2
    refine bodyPost_ret (results_ctt rfl _ _ w.heap.size _ _ (0, 0) _ rfl Hg4.out Tryz.underlying28 rfl (by kernel_rfl)) rfl ?_
    exact ⟨_, _, rfl, Kd.R_nil _ _ _ _ _, erK.M_lower (Nat.le_of_lt hwz2) (erK.M_mono (fun _ _ => trivial) (M_stored HM3.out hwz2 HO4.out)), HB4.out⟩
  subst g3
  obtain rfl := er_open_none (erK.K_of_M HM3.out)
  rw [if_neg (by simp)] at hq
  obtain ⟨rfl, rfl, rfl⟩ : fr = r ∧ fn = n ∧ Er.none = er := by simpa using hq
  obtain ⟨dv, hin⟩ := HR3.out rfl
  obtain ⟨A3, c3, rfl⟩ := Kd.R_slice hin.row
  have HI3 := Kp.mk hin.blk
  have HD3 := Kp.mk hin.row
  clear hq hin HR3 HM3
  go_wp2_with (first | (with_reducible refine ld_blk rfl 28 (.tmp 10) rfl w2.heap.size rfl HI3 Tryz.underlying28 rfl (by kernel_rfl) ?_) | (with_reducible refine st_blk (w0 := w) (base := w.heap.size) rfl 28 (.tmp 4) (.tmp 52) rfl rfl w.heap.size _ rfl rfl Hg3 (by kernel_rfl) (by kernel_rfl) (by kernel_rfl) HL3 (Nat.le_refl _) ?_))
  intro w4 Hg4 HO4 HB4 hs4
  clear hs4
  go_wp2
  refine bodyPost_ret (results_ctt rfl _ _ w.heap.size _ _ (0, 0) _ rfl Hg4.out Tryz.underlying28 rfl (by kernel_rfl)) rfl ?_
  exact ⟨_, _, rfl, Kd.R_lower (Kd.R_mono (R_stored HD3.out hwz2 HO4.out) (fun _ _ => trivial)) (Nat.le_of_lt hwz2), er_none _ _ _, HB4.out⟩
end Go.Proofs.YtlkneoednkhleaaGreatDoor

namespace Go.Proofs.YtlkneoednkhleaaGreatDoor
open Go.RowKit Go.Proofs.YtlkneoednkhleaaGreatDoorW.PrintWords
set_option linter.unusedVariables false
set_option linter.unusedSimpArgs false
set_option maxRecDepth 100000
set_option maxHeartbeats 1000000

def within (v : Int) : Bool := decide (0 ≤ v) && decide (v ≤ 65535)
theorem within_calls (v : Int) (w : World) : Calls Tryz.prog 89 #[.int .i64 v] w fun e w' => e = .returned (.bool (within v)) ∧ w = w' := by
  by_cases h : 0 ≤ v
  · have hb : decide (0 ≤ v) = true := by simpa using h
    have hw : within v = decide (v ≤ 65535) := by unfold within; rw [hb, Bool.true_and]
    rw [hw]
    clear hw
    go_enter Tryz.func89, Tryz.ntmps89
    go_wp2
    go_ret
    exact ⟨rfl, rfl⟩
  · have hb : decide (0 ≤ v) = false := by simpa using h
    have hw : within v = false := by unfold within; rw [hb, Bool.false_and]
    rw [hw]
    clear hw
    go_enter Tryz.func89, Tryz.ntmps89
    go_wp2
    go_ret
    exact ⟨rfl, rfl⟩
theorem rightB_calls (l : L) (w : World) (hE : Env w) (hs : l.length < 4294967281) : Calls Tryz.prog 60 #[.string (mkB l)] w fun e w' => e = .returned (.bool (rightL l)) ∧ Below w.heap.size w w' := right_calls (mkB l) w hE hs
def Qu.right (q : Qu) : Bool := rightL q.name && (within q.typ && within q.cls)
theorem question_calls (q : Qu) (w : World) (hE : Env w) (hs : q.name.length < 4294967281) : Calls Tryz.prog 56 #[.agg #[.string (mkB q.name), .int .i64 q.typ, .int .i64 q.cls]] w fun e w' => e = .returned (.bool q.right) ∧ Below w.heap.size w w' := by
  obtain ⟨qn, qt, qc⟩ := q
  have HS := Kp.mk ((St.start hE).alloc (.cells #[.string (mkB qn), .int .i64 qt, .int .i64 qc] 30))
  have Hg := Kp.mk (heap_new w (.cells #[.string (mkB qn), .int .i64 qt, .int .i64 qc] 30))
  have hr : Qu.right ⟨qn, qt, qc⟩ = (rightL qn && (within qt && within qc)) := rfl
  rw [hr]
  clear hE hr
  dsimp only at hs ⊢
  go_enter Tryz.func56, Tryz.ntmps56
  go_wp2_with (fail)
  refine b_ (rightB_calls qn _ HS.out.env hs) HS ?_
  intro w1 HB1 HS1
  have hg1 := (HB1.out.block _ (heap_lt Hg.out)).trans Hg.out
  have c1 := blk_cell hg1 1
  have c2 := blk_cell hg1 2
  clear hg1
  obtain ⟨b1, hb1⟩ : ∃ b, rightL qn = b := ⟨_, rfl⟩
  rw [hb1]
  cases b1
  · go_wp2
    go_ret
    exact ⟨by simp [hb1], HS1.out.below⟩
  · go_wp2_with (fail)
    refine q_ (within_calls qt _) ?_
    obtain ⟨b2, hb2⟩ : ∃ b, within qt = b := ⟨_, rfl⟩
    rw [hb2]
    cases b2
    · go_wp2
      go_ret
      exact ⟨by simp [hb2], HS1.out.below⟩
    · go_wp2_with (fail)
      refine q_ (within_calls qc _) ?_
      obtain ⟨b3, hb3⟩ : ∃ b, within qc = b := ⟨_, rfl⟩
      rw [hb3]
      go_wp2
      go_ret
      exact ⟨by simp [hb1, hb2, hb3], HS1.out.below⟩
theorem asked_calls (r : Rec) (A : Option Addr) (n c : Nat) (w : World) : Calls Tryz.prog 48 #[.agg (recA r (.slice A n c))] w fun e w' => e = .returned (.agg #[.string (mkB r.name), .int .i64 r.typ, .int .i64 r.cls]) ∧ Below w.heap.size w w' := by
  obtain ⟨rn, rt, rc, rl, ⟨v6, b⟩, rtg, rd⟩ := r
  show Calls Tryz.prog 48 #[.agg #[.string (mkB rn), .int .i64 rt, .int .i64 rc, .int .u32 rl, .bool v6, .int .u8 (b 0), .int .u8 (b 1), .int .u8 (b 2), .int .u8 (b 3), .int .u8 (b 4), .int .u8 (b 5), .int .u8 (b 6), .int .u8 (b 7), .int .u8 (b 8), .int .u8 (b 9), .int .u8 (b 10), .int .u8 (b 11), .int .u8 (b 12), .int .u8 (b 13), .int .u8 (b 14), .int .u8 (b 15), .string (mkB rtg), .slice A n c]] w fun e w' => e = .returned (.agg #[.string (mkB rn), .int .i64 rt, .int .i64 rc]) ∧ Below w.heap.size w w'
  go_enter Tryz.func48, Tryz.ntmps48
  go_wp2
  refine bodyPost_ret (results_cell_row rfl _ _ (w.heap.size + 1) _ _ (0, 0) _ rfl (by rw [show w.heap.size + 1 = (w.alloc (.cells #[.string (mkB rn), .int .i64 rt, .int .i64 rc, .int .u32 rl, .bool v6, .int .u8 (b 0), .int .u8 (b 1), .int .u8 (b 2), .int .u8 (b 3), .int .u8 (b 4), .int .u8 (b 5), .int .u8 (b 6), .int .u8 (b 7), .int .u8 (b 8), .int .u8 (b 9), .int .u8 (b 10), .int .u8 (b 11), .int .u8 (b 12), .int .u8 (b 13), .int .u8 (b 14), .int .u8 (b 15), .string (mkB rtg), .slice A n c] 28)).heap.size by simp]; exact heap_new _ _) Tryz.underlying30 rfl (by kernel_rfl)) rfl ?_
  exact ⟨rfl, ((Below.refl _ _).alloc (Nat.le_refl _) _).alloc (by simp) _⟩
end Go.Proofs.YtlkneoednkhleaaGreatDoor

namespace Go.Proofs.YtlkneoednkhleaaGreatDoor
open Go.RowKit Go.Proofs.YtlkneoednkhleaaGreatDoorW.PrintWords
set_option linter.unusedVariables false
set_option linter.unusedSimpArgs false
set_option maxRecDepth 100000
set_option maxHeartbeats 1000000

/-- Is an address the zero one? -/
def Ad.plain (a : Ad) : Bool := a.v6 == false && eq16 a.l [(fun _ => (0 : Int)) 0, (fun _ => (0 : Int)) 1, (fun _ => (0 : Int)) 2, (fun _ => (0 : Int)) 3, (fun _ => (0 : Int)) 4, (fun _ => (0 : Int)) 5, (fun _ => (0 : Int)) 6, (fun _ => (0 : Int)) 7, (fun _ => (0 : Int)) 8, (fun _ => (0 : Int)) 9, (fun _ => (0 : Int)) 10, (fun _ => (0 : Int)) 11, (fun _ => (0 : Int)) 12, (fun _ => (0 : Int)) 13, (fun _ => (0 : Int)) 14, (fun _ => (0 : Int)) 15]
def Rec.tail (r : Rec) : Bool :=
  if r.typ = 1 ∨ r.typ = 28 then r.tgt.isEmpty && (decide (r.data.length = 0) && (r.ad.right && (r.ad.v6 == decide (r.typ = 28))))
  else if r.typ = 5 then r.ad.plain && decide (r.data.length = 0)
  else r.ad.plain && r.tgt.isEmpty
/-- May a record be? -/
def Rec.right (r : Rec) : Bool := Qu.right ⟨r.name, r.typ, r.cls⟩ && (rightL r.tgt && (decide (r.data.length ≤ 1000) && r.tail))
theorem rightRec_calls (r : Rec) (A : Option Addr) (c : Nat) (w : World) (hE : Env w) (hs : r.name.length < 4294967281) (ht : r.tgt.length < 4294967281) (hd : r.data.length ≤ 9223372036854775807) : Calls Tryz.prog 22 #[.agg (recA r (.slice A r.data.length c))] w fun e w' => e = .returned (.bool r.right) ∧ Below w.heap.size w w' := by
  obtain ⟨rn, rt, rc, rl, ⟨v6, b⟩, rtg, rd⟩ := r
  have hr : Rec.right ⟨rn, rt, rc, rl, ⟨v6, b⟩, rtg, rd⟩ = (Qu.right ⟨rn, rt, rc⟩ && (rightL rtg && (decide (rd.length ≤ 1000) && Rec.tail ⟨rn, rt, rc, rl, ⟨v6, b⟩, rtg, rd⟩))) := rfl
  rw [hr]
  clear hr
  show Calls Tryz.prog 22 #[.agg #[.string (mkB rn), .int .i64 rt, .int .i64 rc, .int .u32 rl, .bool v6, .int .u8 (b 0), .int .u8 (b 1), .int .u8 (b 2), .int .u8 (b 3), .int .u8 (b 4), .int .u8 (b 5), .int .u8 (b 6), .int .u8 (b 7), .int .u8 (b 8), .int .u8 (b 9), .int .u8 (b 10), .int .u8 (b 11), .int .u8 (b 12), .int .u8 (b 13), .int .u8 (b 14), .int .u8 (b 15), .string (mkB rtg), .slice A rd.length c]] w fun e w' => e = .returned (.bool (Qu.right ⟨rn, rt, rc⟩ && (rightL rtg && (decide (rd.length ≤ 1000) && Rec.tail ⟨rn, rt, rc, rl, ⟨v6, b⟩, rtg, rd⟩)))) ∧ Below w.heap.size w w'
  have HS := Kp.mk ((St.start hE).alloc (.cells #[.string (mkB rn), .int .i64 rt, .int .i64 rc, .int .u32 rl, .bool v6, .int .u8 (b 0), .int .u8 (b 1), .int .u8 (b 2), .int .u8 (b 3), .int .u8 (b 4), .int .u8 (b 5), .int .u8 (b 6), .int .u8 (b 7), .int .u8 (b 8), .int .u8 (b 9), .int .u8 (b 10), .int .u8 (b 11), .int .u8 (b 12), .int .u8 (b 13), .int .u8 (b 14), .int .u8 (b 15), .string (mkB rtg), .slice A rd.length c] 28))
  have Hg := Kp.mk (heap_new w (.cells #[.string (mkB rn), .int .i64 rt, .int .i64 rc, .int .u32 rl, .bool v6, .int .u8 (b 0), .int .u8 (b 1), .int .u8 (b 2), .int .u8 (b 3), .int .u8 (b 4), .int .u8 (b 5), .int .u8 (b 6), .int .u8 (b 7), .int .u8 (b 8), .int .u8 (b 9), .int .u8 (b 10), .int .u8 (b 11), .int .u8 (b 12), .int .u8 (b 13), .int .u8 (b 14), .int .u8 (b 15), .string (mkB rtg), .slice A rd.length c] 28))
  clear hE
  dsimp only at hs ht hd
  obtain ⟨bq, hbq⟩ : ∃ bq, Qu.right ⟨rn, rt, rc⟩ = bq := ⟨_, rfl⟩
  obtain ⟨br, hbr⟩ : ∃ br, rightL rtg = br := ⟨_, rfl⟩
  obtain ⟨bd, hbd⟩ : ∃ bd, decide (rd.length ≤ 1000) = bd := ⟨_, rfl⟩
  obtain ⟨bt, hbt⟩ : ∃ bt, Rec.tail ⟨rn, rt, rc, rl, ⟨v6, b⟩, rtg, rd⟩ = bt := ⟨_, rfl⟩
  rw [hbq, hbr, hbd, hbt]
  have HBQ := Kp.mk hbq
  have HBR := Kp.mk hbr
  have HBD := Kp.mk hbd
  have HBT := Kp.mk hbt
  clear hbq hbr hbd hbt
  go_enter Tryz.func22, Tryz.ntmps22
  go_wp2_with (with_reducible refine ld_blk rfl 28 (.tmp 1) rfl w.heap.size rfl Hg Tryz.underlying28 rfl (by kernel_rfl) ?_)
  refine b_ (asked_calls ⟨rn, rt, rc, rl, ⟨v6, b⟩, rtg, rd⟩ A rd.length c _) HS ?_
  intro w1 HB1 HS1
  have Hg1 := Kp.mk ((HB1.out.block _ (heap_lt Hg.out)).trans Hg.out)
  go_wp2_with (fail)
  refine b_ (question_calls ⟨rn, rt, rc⟩ _ HS1.out.env hs) HS1 ?_
  intro w2 HB2 HS2
  have Hg2 := Kp.mk ((HB2.out.block _ (heap_lt Hg1.out)).trans Hg1.out)
  rw [HBQ.out]
  cases bq
  · go_wp2
    go_ret
    exact ⟨rfl, HS2.out.below⟩
  have c21 := blk_cell Hg2.out 21
  go_wp2_with (fail)
  refine b_ (rightB_calls rtg _ HS2.out.env ht) HS2 ?_
  intro w3 HB3 HS3
  have Hg3 := Kp.mk ((HB3.out.block _ (heap_lt Hg2.out)).trans Hg2.out)
  clear c21
  rw [HBR.out]
  cases br
  · go_wp2
    go_ret
    exact ⟨rfl, HS3.out.below⟩
  have c22 := blk_cell Hg3.out 22
  have c21 := blk_cell Hg3.out 21
  have c1 := blk_cell Hg3.out 1
  cases bd
  · have hd1 : decide ((1000 : Int) < (rd.length : Int)) = true := by have := HBD.out; simp at this; simp; omega
    go_wp2
    go_ret
    exact ⟨rfl, HS3.out.below⟩
  have hd1 : decide ((1000 : Int) < (rd.length : Int)) = false := by have := HBD.out; simp at this; simp; omega
  have a4 := blk_cell Hg3.out 4
  have a5 := blk_cell Hg3.out 5
  have a6 := blk_cell Hg3.out 6
  have a7 := blk_cell Hg3.out 7
  have a8 := blk_cell Hg3.out 8
  have a9 := blk_cell Hg3.out 9
  have a10 := blk_cell Hg3.out 10
  have a11 := blk_cell Hg3.out 11
  have a12 := blk_cell Hg3.out 12
  have a13 := blk_cell Hg3.out 13
  have a14 := blk_cell Hg3.out 14
  have a15 := blk_cell Hg3.out 15
  have a16 := blk_cell Hg3.out 16
  have a17 := blk_cell Hg3.out 17
  have a18 := blk_cell Hg3.out 18
  have a19 := blk_cell Hg3.out 19
  have a20 := blk_cell Hg3.out 20
  have hbe : (mkB rtg).toList.isEmpty = rtg.isEmpty := by rw [ByteArray.toList_eq]; rfl
  obtain ⟨be, hbe2⟩ : ∃ be, rtg.isEmpty = be := ⟨_, rfl⟩
  rw [hbe2] at hbe
  obtain ⟨bz, hbz⟩ : ∃ bz, Ad.plain ⟨v6, b⟩ = bz := ⟨_, rfl⟩
  have heq := fun (w : World) => run_eq_ad v6 false (b 0) (b 1) (b 2) (b 3) (b 4) (b 5) (b 6) (b 7) (b 8) (b 9) (b 10) (b 11) (b 12) (b 13) (b 14) (b 15) 0 0 0 0 0 0 0 0 0 0 0 0 0 0 0 0 w
  have hbz2 : (v6 == false && eq16 [b 0, b 1, b 2, b 3, b 4, b 5, b 6, b 7, b 8, b 9, b 10, b 11, b 12, b 13, b 14, b 15] [0, 0, 0, 0, 0, 0, 0, 0, 0, 0, 0, 0, 0, 0, 0, 0]) = bz := hbz
  rw [hbz2] at heq
  have hbt := HBT.out
  unfold Rec.tail at hbt
  rw [hbz] at hbt
  dsimp only at hbt
  rw [hbe2] at hbt
  have HT := Kp.mk hbt
  clear hbt hbz hbz2 hbe2 HBT
  by_cases t1 : rt = 1 ∨ rt = 28
  · have ht1 := HT.out
    rw [if_pos t1] at ht1
    have HT1 := Kp.mk ht1
    clear ht1 HT
    rcases t1 with rfl | rfl
    all_goals
      cases be
      case false =>
        go_wp2
        go_ret
        exact ⟨by rw [← HT1.out]; rfl, HS3.out.below⟩
      by_cases h0 : rd.length = 0
      case neg =>
        have b0 : ((rd.length : Int) == 0) = false := by simpa using h0
        have hd0 : decide (rd.length = 0) = false := by simpa using h0
        go_wp2
        go_ret
        exact ⟨by rw [← HT1.out, hd0]; rfl, HS3.out.below⟩
      have hd0 : decide (rd.length = 0) = true := by simpa using h0
      have HD0 := Kp.mk hd0
      rw [h0] at c22
      clear h0 hd0
      go_wp2_with (fail)
      refine b_ (addr_right ⟨v6, b⟩ _) HS3 ?_
      intro w4 HB4 HS4
      have Hg4 := Kp.mk ((HB4.out.block _ (heap_lt Hg3.out)).trans Hg3.out)
      clear a4 a5 a6 a7 a8 a9 a10 a11 a12 a13 a14 a15 a16 a17 a18 a19 a20 c1 c21 c22
      have d4 := blk_cell Hg4.out 4
      have d1 := blk_cell Hg4.out 1
      obtain ⟨ba, hba⟩ : ∃ ba, Ad.right ⟨v6, b⟩ = ba := ⟨_, rfl⟩
      have ht1 := HT1.out
      rw [HD0.out, hba] at ht1
      rw [hba]
      have HT2 := Kp.mk ht1
      clear ht1 hba HT1
      cases ba
      · go_wp2
        go_ret
        exact ⟨by rw [← HT2.out]; rfl, HS4.out.below⟩
      · go_wp2
        go_ret
        exact ⟨by rw [← HT2.out]; cases v6 <;> rfl, HS4.out.below⟩
  · have b1 : (rt == 1) = false := by simp; omega
    have b28 : (rt == 28) = false := by simp; omega
    have ht1 := HT.out
    rw [if_neg t1] at ht1
    clear HT
    by_cases t5 : rt = 5
    · rw [if_pos t5] at ht1
      have HT1 := Kp.mk ht1
      subst t5
      clear ht1
      cases bz
      · go_wp2
        go_ret
        exact ⟨by rw [← HT1.out]; rfl, HS3.out.below⟩
      · by_cases h0 : rd.length = 0
        · have hd0 : decide (rd.length = 0) = true := by simpa using h0
          have HD0 := Kp.mk hd0
          rw [h0] at c22
          clear h0 hd0
          go_wp2
          go_ret
          exact ⟨by rw [← HT1.out, HD0.out]; rfl, HS3.out.below⟩
        · have b0 : ((rd.length : Int) == 0) = false := by simpa using h0
          have hd0 : decide (rd.length = 0) = false := by simpa using h0
          go_wp2
          go_ret
          exact ⟨by rw [← HT1.out, hd0]; rfl, HS3.out.below⟩
    · have b5 : (rt == 5) = false := by simpa using t5
      rw [if_neg t5] at ht1
      have HT1 := Kp.mk ht1
      clear ht1
      cases bz
      · go_wp2
        go_ret
        exact ⟨by rw [← HT1.out]; rfl, HS3.out.below⟩
      · go_wp2
        go_ret
        exact ⟨by rw [← HT1.out]; rfl, HS3.out.below⟩
end Go.Proofs.YtlkneoednkhleaaGreatDoor

namespace Go.Proofs.YtlkneoednkhleaaGreatDoor
open Go.RowKit Go.Proofs.YtlkneoednkhleaaGreatDoorW.PrintWords
set_option linter.unusedVariables false
set_option linter.unusedSimpArgs false
set_option maxRecDepth 100000
set_option maxHeartbeats 1000000

theorem app_runB {ops : Array Oper} {rest : List Oper} {o : Oper} {a : Act} {Q : Exit → Act → World → Prop} {W W' : World} {s x : Operand} {t u : TypeId} {v1 v2 v : Value} (hgd : o.guard = none) (ho : o.op = .call { callee := .builtin .append, args := #[s, x], argTypes := #[t, u] })
    (hs : a.eval s = v1) (hx : a.eval x = v2) (hrun : (Builtin.append_ #[t, u] o.type #[v1, v2]).run Tryz.prog W = .ok v W') (h : wpList Tryz.prog ops Q rest (a.put o.dst v) W') : wpList Tryz.prog ops Q (o :: rest) a W := by
  refine wpList_plain hgd fun K hK => ?_
  unfold Oper.wp execOp
  simp only [ho, resolve, invoke, builtin, Sem.run_bind, Sem.run_pure, Result.andThen_ok, List.map_toArray, List.map_cons, List.map_nil, hs, hx, hrun]
  exact hK _ _ h
theorem growB_nil (n : Nat) (w : World) (hn : n * 1 ≤ 140737488355328) :
    Calls Tryz.prog 86 #[.slice none 0 0, .int .i64 n] w fun e w' => (∃ v, e = .returned v ∧ (Kd.int .u8).R 5 w' w.heap.size (fun _ => True) v []) ∧ Below w.heap.size w w' := by
  by_cases h0 : n = 0
  · subst h0
    go_enter Tryz.func86, Tryz.ntmps86
    go_wp2
    go_ret
    exact ⟨⟨_, rfl, Kd.R_nil _ _ _ _ _⟩, Below.refl _ _⟩
  · obtain ⟨i0, hi0, hzz⟩ := Option.map_eq_some_iff.1 (show (Tryz.prog.info? 5).map (fun i => (i.zero, i.size, i.bytes)) = some (some (.int .u8 0), 1, 1) by kernel_rfl)
    simp only [Prod.mk.injEq] at hzz
    obtain ⟨hz0, hz1, hz2⟩ := hzz
    have hrz := fun ty => Lib.run_append_grow_zeros (P := Tryz.prog) w 22 3 ty 5 i0 (.int .u8 0) .i64 .i64 Tryz.underlying22 Tryz.underlying3 hi0 hz0 none 0 0 [] (run_firstCells_none w.drew i0.size 0 0 0) n (by omega) (by rw [hz1]; decide) (by omega) (by omega) (by rw [hz2]; omega) (growslice_fits (by omega) (by rw [hz2]; omega))
    simp only [Nat.zero_add] at hrz
    have hGn : n ≤ grownCap w n 0 5 := grownCap_ge w _ _ _
    have hGm := grownCap_le_maxLen w n 0 5 (by unfold maxLen; omega)
    obtain ⟨G, hG⟩ : ∃ G, grownCap w n 0 5 = G := ⟨_, rfl⟩
    rw [hG] at hrz hGn hGm
    have HGM := Kp.mk hGm
    obtain ⟨cur, hcur⟩ : ∃ cur, ([] : List Value).toArray ++ Builtin.zeroCells (Value.int .u8 0).cells n ++ Builtin.zeroCells (Value.int .u8 0).cells (G - n) = cur := ⟨_, rfl⟩
    have hcs : cur.size = G * 1 := by
      rw [← hcur]
      simp [Builtin.zeroCells, Value.cells]
      omega
    rw [hcur] at hrz
    have HCS := Kp.mk hcs
    have hG9 : G ≤ 9223372036854775807 := by simpa [maxLen] using hGm
    have b0 : decide (0 < (n : Int)) = true := by simp; omega
    have b1 : decide ((n : Int) < 0) = false := by simp
    clear hG hcur hi0 hz0 hz1 hz2 hGm hcs
    go_enter Tryz.func86, Tryz.ntmps86
    have HRZ := Kp.mk hrz
    clear hrz
    go_wp2_with (at_builtin; with_reducible refine gate_builtin (b := .append) (xs := #[.tmp 20, .tmp 21]) rfl ?_; go_must (refine app_runB rfl rfl rfl rfl (HRZ.out _) ?_))
    go_ret
    refine ⟨⟨_, rfl, ?_⟩, (below_drew (Below.refl _ _)).alloc (Nat.le_refl _) _⟩
    refine Kd.R_of_own (xs := []) ?_ (fun _ _ => trivial)
    exact World.ownsRow_made w.drew cur G (Nat.le_refl _) HGM.out HCS.out
theorem at_rowB {w : World} {A : Option Addr} {n : Nat} {xss : List (List Int)} (h : (Kd.slice 5 (Kd.int .u8)).C w A n xss) (i : Nat) (hi : i < n) : ∃ ad A' c', A = some ad ∧ w.cell? (ad.add i) = some (.slice A' (xss.getD i []).length c') ∧ (xss.getD i []).length ≤ c' ∧ (Kd.int .u8).C w A' (xss.getD i []).length (xss.getD i []) := by
  obtain ⟨ad, c, e, -, hK, hc⟩ := Kd.C_get h [] (i : Int) (by omega) (by omega)
  rw [Int.toNat_natCast] at hK hc
  obtain ⟨A', c', rfl, h1, h2⟩ := hK
  refine ⟨ad, A', c', e, ?_, h1, h2⟩
  have h3 := hc 0 _ rfl
  have e1 : i * (Kd.slice 5 (Kd.int .u8)).sz + 0 = i := by show i * 1 + 0 = i; omega
  rwa [e1] at h3
theorem concatB_calls (A : Option Addr) (c : Nat) (xss : List (List Int)) (w : World) (h : (Kd.slice 5 (Kd.int .u8)).C w A xss.length xss) (hl : xss.flatten.length * 1 ≤ 140737488355328) :
    Calls Tryz.prog 50 #[.slice A xss.length c] w (Gives (Kd.slice 5 (Kd.int .u8)) xss.flatten w) := by
  have hm := (C_len h).2
  have HC := Kp.mk h
  have HL := Kp.mk hl
  clear h
  go_enter Tryz.func50, Tryz.ntmps50
  go_wp2_with (fail)
  have hfl : ∀ k, ((xss.take k).flatten).length ≤ xss.flatten.length := fun k => by
    conv => rhs; rw [← List.take_append_drop k xss, List.flatten_append, List.length_append]
    omega
  obtain ⟨F, hF⟩ : ∃ F : Nat → Nat, ∀ k, ((xss.take k).flatten).length = F k := ⟨_, fun _ => rfl⟩
  have hFz : F xss.length = xss.flatten.length := by rw [← hF, List.take_length]
  have hF0 : F 0 = 0 := by rw [← hF]; rfl
  have HFL := Kp.mk (fun k => (hF k) ▸ hfl k)
  have HF := Kp.mk hF
  have HFZ := Kp.mk hFz
  have HF0 := Kp.mk hF0
  clear hfl hF hFz hF0
  go_loop [3, 11] (fun z i => ∃ k : Nat, k ≤ xss.length ∧ i = .int .i64 k ∧ z = .int .i64 (F k)) (fun _ i => xss.length - (intOf i).toNat)
  case atStart => exact ⟨0, Nat.zero_le _, rfl, by rw [HF0.out]; rfl⟩
  case round =>
    obtain ⟨k, hk, rfl, rfl⟩ := hrel
    by_cases hlt : k < xss.length
    · obtain ⟨ad, A', c', rfl, hcell, -, -⟩ := at_rowB HC.out k hlt
      have hts := take_snoc xss [] k hlt
      obtain ⟨x, hx⟩ : ∃ x, xss.getD k [] = x := ⟨_, rfl⟩
      rw [hx] at hcell hts
      have hsn : F (k + 1) = F k + x.length := by
        rw [← HF.out, ← HF.out, hts, List.flatten_append, List.length_append]
        simp
      have hle : (F k + x.length) * 1 ≤ 140737488355328 := by
        have h1 := HFL.out (k + 1)
        have h2 := HL.out
        rw [hsn] at h1
        omega
      have HSN := Kp.mk hsn
      clear hx hts hsn
      go_wp2
      exact ⟨⟨k + 1, by omega, by go_num, by rw [HSN.out]; go_num⟩, by simp [intOf]; omega⟩
    · obtain rfl : k = xss.length := by omega
      have ht : xss.take xss.length = xss := List.take_length
      have hfx : F xss.length * 1 ≤ 140737488355328 := by rw [HFZ.out]; exact HL.out
      clear hlt
      go_wp2_with (fail)
      refine (growB_nil _ _ (by omega)).mono ?_
      rintro e w1 ⟨⟨v, rfl, hR⟩, hb⟩
      have HR := Kp.mk hR
      have HB := Kp.mk hb
      clear hR hb
      go_wp2_with (fail)
      go_loopw [6, 27] (fun v i wr => ∃ k : Nat, k ≤ xss.length ∧ i = .int .i64 k ∧ Kp (Below w.heap.size w wr) ∧ Kp ((Kd.int .u8).R 5 wr w.heap.size (fun _ => True) v ((xss.take k).flatten))) (fun _ i _ => xss.length - (intOf i).toNat)
      case atStart => exact ⟨0, Nat.zero_le _, rfl, HB, HR⟩
      case round =>
        obtain ⟨k, hk, rfl, HW, HRk⟩ := hrel
        by_cases hlt : k < xss.length
        · obtain ⟨ad, A', c', rfl, hcell, hc', hC'⟩ := at_rowB (Kd.C_below HC.out HW.out) k hlt
          have hts := take_snoc xss [] k hlt
          obtain ⟨x, hx⟩ : ∃ x, xss.getD k [] = x := ⟨_, rfl⟩
          rw [hx] at hcell hts hc' hC'
          have hsn : (xss.take (k + 1)).flatten = (xss.take k).flatten ++ x := by rw [hts]; simp
          have hle := HFL.out (k + 1)
          rw [← HF.out, hsn, List.length_append] at hle
          have hl := HL.out
          have hlb : (((xss.take k).flatten).length + x.length) * 1 ≤ 140737488355328 := by omega
          clear hle hl
          have HSN := Kp.mk hsn
          have HC' := Kp.mk hC'
          have hsz := HW.out.size
          clear hx hts hsn hC'
          obtain ⟨ys, hy⟩ : ∃ ys, (xss.take k).flatten = ys := ⟨_, rfl⟩
          rw [hy] at hlb HSN HRk
          clear hy
          go_wp2_with (at_builtin; with_reducible refine gate_builtin (b := .append) (xs := #[.tmp 31, .tmp 32]) rfl ?_; go_must (refine app_bytes (w0 := w) (s := .tmp 31) (x := .tmp 32) (v := u6) (base := w.heap.size) rfl rfl ys x A' x.length c' rfl rfl HRk.out HC'.out HW.out hsz (by omega) ?_))
          intro v1 wa HR1 HW1 hs1
          go_wp2
          exact ⟨⟨k + 1, by omega, by go_num, HW1, ⟨by rw [HSN.out]; exact HR1.out⟩⟩, by simp [intOf]; omega⟩
        · obtain rfl : k = xss.length := by omega
          have ht : xss.take xss.length = xss := List.take_length
          rw [ht] at HRk
          clear ht hlt
          go_wp2
          go_ret
          exact ⟨_, rfl, ⟨_, rfl, HRk.out⟩, HW.out⟩
end Go.Proofs.YtlkneoednkhleaaGreatDoor

namespace Go.Proofs.YtlkneoednkhleaaGreatDoor
open Go.RowKit Go.Proofs.YtlkneoednkhleaaGreatDoorW.PrintWords
set_option linter.unusedVariables false
set_option linter.unusedSimpArgs false
set_option maxRecDepth 100000
set_option maxHeartbeats 1000000

/-- A row of rows, in a new block of its own. -/
theorem lit_rows {w : World} {T : TypeId} (vs : List Value) (xss : List (List Int)) (hl : vs.length = xss.length) (hm : vs.length ≤ 9223372036854775807)
    (h : ∀ j, j < xss.length → ∃ A c, vs[j]? = some (.slice A (xss.getD j []).length c) ∧ (xss.getD j []).length ≤ c ∧ (Kd.int .u8).C w A (xss.getD j []).length (xss.getD j [])) :
    (Kd.slice 5 (Kd.int .u8)).C (w.alloc (.cells vs.toArray T)) (some ⟨w.heap.size, 0, none⟩) xss.length xss := by
  refine ⟨rfl, by omega, fun _ => ⟨_, rfl, fun j p hj => ?_⟩⟩
  obtain ⟨hlt, hp⟩ := List.getElem?_eq_some_iff.1 hj
  obtain ⟨A, c, h1, h2, h3⟩ := h j hlt
  have e : xss.getD j [] = p := by rw [List.getD_eq_getElem?_getD, hj]; rfl
  rw [e] at h1 h2 h3
  refine ⟨[.slice A p.length c], rfl, ⟨A, c, rfl, h2, Kd.C_below h3 ((Below.refl _ _).alloc (Nat.le_refl _) _)⟩, fun i u hu => ?_⟩
  cases i with
  | zero =>
    obtain rfl : .slice A p.length c = u := by simpa using hu
    have e1 : j * (Kd.slice 5 (Kd.int .u8)).sz + 0 = j := by show j * 1 + 0 = j; omega
    rw [e1, add_plain, blk_cell (heap_new w (.cells vs.toArray T)), List.getElem?_toArray]
    exact h1
  | succ i => simp at hu
theorem put_calls (A B : Option Addr) (n m c d : Nat) (xs ys : List Int) (w : World) (h : (Kd.int .u8).C w A n xs) (hc : n ≤ c) (h2 : (Kd.int .u8).C w B m ys) (hd : m ≤ d) (hl : n + m ≤ 140737488355328) :
    Calls Tryz.prog 87 #[.slice A n c, .slice B m d] w (Gives bytesK (xs ++ ys) w) := by
  obtain rfl := (C_len h).1
  obtain rfl := (C_len h2).1
  have HC := Kp.mk (lit_rows (w := w) (T := 22) [.slice A xs.length c, .slice B ys.length d] [xs, ys] rfl (by show 2 ≤ 9223372036854775807; decide) (fun j hj => by
    have hj' : j < 2 := hj
    match j, hj' with
    | 0, _ => exact ⟨A, c, rfl, hc, h⟩
    | 1, _ => exact ⟨B, d, rfl, hd, h2⟩))
  have hf : [xs, ys].flatten = xs ++ ys := by simp
  have H := Kp.mk (concatB_calls _ 2 [xs, ys] _ HC.out (by rw [hf, List.length_append]; omega))
  rw [hf] at H
  clear h h2 hf HC
  go_enter Tryz.func87, Tryz.ntmps87
  go_wp2_with (fail)
  refine H.out.mono ?_
  rintro e w1 ⟨v, rfl, hm, hb⟩
  have HM := Kp.mk hm
  have HB := Kp.mk hb
  clear hm hb H
  go_wp2
  go_ret
  exact ⟨_, rfl, (by obtain ⟨v', hv, hR⟩ := HM.out; exact ⟨v', hv, Kd.R_lower hR (by simp)⟩), ((Below.refl _ _).alloc (Nat.le_refl _) _).trans (HB.out.mono (by simp))⟩
theorem put16_calls (A : Option Addr) (n c : Nat) (xs : List Int) (v : Int) (w : World) (h : (Kd.int .u8).C w A n xs) (hc : n ≤ c) (hl : n ≤ 140737488350000) (h0 : 0 ≤ v) (h1 : v ≤ 65535) :
    Calls Tryz.prog 51 #[.slice A n c, .int .i64 v] w (Gives bytesK (xs ++ be16 v) w) := by
  have e1 : IntKind.u8.wrap (v / 256) = v / 256 := IntWalk.u8_in _ (by omega)
  have e2 : IntKind.u8.wrap v = v % 256 := by unfold IntKind.wrap IntKind.bits IntKind.signed; simp
  have HC := Kp.mk (R_C (lit_bytes w w.heap.size (be16 v) (Nat.le_refl _) (by show 2 ≤ 9223372036854775807; decide))).1
  have H := Kp.mk (put_calls A _ n 2 c 2 xs (be16 v) _ (Kd.C_below h ((Below.refl _ _).alloc (Nat.le_refl _) _)) hc HC.out (by decide) (by omega))
  unfold be16 at H HC ⊢
  clear h HC
  go_enter Tryz.func51, Tryz.ntmps51
  go_wp2_with (fail)
  refine H.out.mono ?_
  rintro e w1 ⟨v', rfl, hm, hb⟩
  have HM := Kp.mk hm
  have HB := Kp.mk hb
  clear hm hb H
  go_wp2
  go_ret
  exact ⟨_, rfl, (by obtain ⟨v', hv, hR⟩ := HM.out; exact ⟨v', hv, Kd.R_lower hR (by simp)⟩), ((Below.refl _ _).alloc (Nat.le_refl _) _).trans (HB.out.mono (by simp))⟩
theorem put32_calls (A : Option Addr) (n c : Nat) (xs : List Int) (v : Int) (w : World) (h : (Kd.int .u8).C w A n xs) (hc : n ≤ c) (hl : n ≤ 140737488350000) (h0 : 0 ≤ v) (h1 : v ≤ 4294967295) :
    Calls Tryz.prog 52 #[.slice A n c, .int .u32 v] w (Gives bytesK (xs ++ be32 v) w) := by
  have e1 : IntKind.u8.wrap (v / 16777216) = v / 16777216 := IntWalk.u8_in _ (by omega)
  have e2 : IntKind.u8.wrap v = v % 256 := by unfold IntKind.wrap IntKind.bits IntKind.signed; simp
  have e3 : IntKind.u8.wrap (v / 65536) = v / 65536 % 256 := by unfold IntKind.wrap IntKind.bits IntKind.signed; simp
  have e4 : IntKind.u8.wrap (v / 256) = v / 256 % 256 := by unfold IntKind.wrap IntKind.bits IntKind.signed; simp
  have HC := Kp.mk (R_C (lit_bytes w w.heap.size (be32 v) (Nat.le_refl _) (by show 4 ≤ 9223372036854775807; decide))).1
  have H := Kp.mk (put_calls A _ n 4 c 4 xs (be32 v) _ (Kd.C_below h ((Below.refl _ _).alloc (Nat.le_refl _) _)) hc HC.out (by decide) (by omega))
  unfold be32 at H HC ⊢
  clear h HC
  go_enter Tryz.func52, Tryz.ntmps52
  go_wp2_with (fail)
  refine H.out.mono ?_
  rintro e w1 ⟨v', rfl, hm, hb⟩
  have HM := Kp.mk hm
  have HB := Kp.mk hb
  clear hm hb H
  go_wp2
  go_ret
  exact ⟨_, rfl, (by obtain ⟨v', hv, hR⟩ := HM.out; exact ⟨v', hv, Kd.R_lower hR (by simp)⟩), ((Below.refl _ _).alloc (Nat.le_refl _) _).trans (HB.out.mono (by simp))⟩
end Go.Proofs.YtlkneoednkhleaaGreatDoor

namespace Go.Proofs.YtlkneoednkhleaaGreatDoor
open Go.RowKit Go.Proofs.YtlkneoednkhleaaGreatDoorW.PrintWords
set_option linter.unusedVariables false
set_option linter.unusedSimpArgs false
set_option maxRecDepth 100000
set_option maxHeartbeats 1000000

/-- A name's bytes. -/
def nameW (l : L) : List Int := wireOf (labelsOf l) ++ [0]
/-- A question's bytes. -/
def Qu.wire (q : Qu) : List Int := nameW q.name ++ be16 q.typ ++ be16 q.cls
theorem nameW_len (l : L) (h : rightL l = true) : (nameW l).length ≤ 256 := by
  have h1 := (right_labels l h).1
  have h2 := wire_len (labelsOf l)
  unfold nameW
  rw [List.length_append, List.length_singleton]
  omega
theorem within_mk {v : Int} (h : within v = true) : 0 ≤ v ∧ v ≤ 65535 := by
  unfold within at h
  simpa using h
theorem Qu.right_mk {q : Qu} (h : q.right = true) : rightL q.name = true ∧ (0 ≤ q.typ ∧ q.typ ≤ 65535) ∧ 0 ≤ q.cls ∧ q.cls ≤ 65535 := by
  unfold Qu.right at h
  rw [Bool.and_eq_true, Bool.and_eq_true] at h
  exact ⟨h.1, within_mk h.2.1, within_mk h.2.2⟩
/-- What stands behind a record's length. -/
def Rec.body (r : Rec) : List Int := if r.typ = 5 then nameW r.tgt else r.ad.l.take (szT r.typ).toNat ++ r.data
end Go.Proofs.YtlkneoednkhleaaGreatDoor

namespace Go.Proofs.YtlkneoednkhleaaGreatDoor
open Go.RowKit Go.Proofs.YtlkneoednkhleaaGreatDoorW.PrintWords
set_option linter.unusedVariables false
set_option linter.unusedSimpArgs false
set_option maxRecDepth 100000
set_option maxHeartbeats 1000000

theorem writeB_good (l : L) (w : World) (hE : Env w) (hs : l.length < 4294967281) (hr : rightL l = true) : Calls Tryz.prog 55 #[.string (mkB l)] w (Gives2 bytesK erK (nameW l) .none w) := write_good (mkB l) w hE hs hr
theorem writeB_bad (l : L) (w : World) (hE : Env w) (hs : l.length < 4294967281) (hr : rightL l = false) : Calls Tryz.prog 55 #[.string (mkB l)] w (Gives2 bytesK erK [] (.code 13) w) := write_bad (mkB l) w hE hs hr
theorem wq_bad (q : Qu) (w : World) (hE : Env w) (hs : q.name.length < 4294967281) (hq : q.right = false) : Calls Tryz.prog 17 #[.agg #[.string (mkB q.name), .int .i64 q.typ, .int .i64 q.cls]] w (Gives2 bytesK erK [] (.code 1) w) := by
  obtain ⟨qn, qt, qc⟩ := q
  have HS := Kp.mk ((St.start hE).alloc (.cells #[.string (mkB qn), .int .i64 qt, .int .i64 qc] 30))
  have Hg := Kp.mk (heap_new w (.cells #[.string (mkB qn), .int .i64 qt, .int .i64 qc] 30))
  have HQ := Kp.mk hq
  clear hE hq
  dsimp only at hs ⊢
  by_cases hn : rightL qn = true
  · have HN := Kp.mk hn
    clear hn
    go_enter Tryz.func17, Tryz.ntmps17
    go_wp2_with (fail)
    refine g2sn_ (writeB_good qn _ HS.out.env hs HN.out) HS ?_
    intro A1 c1 w1 hc1 hcm1 HC1 HM1 HB1 HS1
    have Hg1 := Kp.mk ((HB1.out.block _ (heap_lt Hg.out)).trans Hg.out)
    have d0 := blk_cell Hg1.out 0
    have d1 := blk_cell Hg1.out 1
    have d2 := blk_cell Hg1.out 2
    go_wp2_with (fail)
    refine b_ (question_calls ⟨qn, qt, qc⟩ _ HS1.out.env hs) HS1 ?_
    intro w2 HB2 HS2
    rw [HQ.out]
    go_wp2
    go_ret2
    exact ⟨_, _, rfl, ⟨_, rfl, Kd.R_nil _ _ _ _ _⟩, er_code _ _ _ _, HS2.out.below⟩
  · have hn' : rightL qn = false := by simpa using hn
    have HN := Kp.mk hn'
    clear hn hn'
    go_enter Tryz.func17, Tryz.ntmps17
    go_wp2_with (fail)
    refine g2_ (writeB_bad qn _ HS.out.env hs HN.out) HS ?_
    intro v1 v1e w1 HM1 HE1 HB1 HS1
    obtain rfl := er_open_code (erK.K_of_M HE1.out)
    go_wp2
    go_ret2
    exact ⟨_, _, rfl, ⟨_, rfl, Kd.R_nil _ _ _ _ _⟩, er_code _ _ _ _, HS1.out.below⟩
theorem wq_good (q : Qu) (w : World) (hE : Env w) (hs : q.name.length < 4294967281) (hq : q.right = true) : Calls Tryz.prog 17 #[.agg #[.string (mkB q.name), .int .i64 q.typ, .int .i64 q.cls]] w (Gives2 bytesK erK q.wire .none w) := by
  obtain ⟨hn, ht, hc⟩ := Qu.right_mk hq
  have hnl := nameW_len _ hn
  obtain ⟨qn, qt, qc⟩ := q
  have HS := Kp.mk ((St.start hE).alloc (.cells #[.string (mkB qn), .int .i64 qt, .int .i64 qc] 30))
  have Hg := Kp.mk (heap_new w (.cells #[.string (mkB qn), .int .i64 qt, .int .i64 qc] 30))
  have HQ := Kp.mk hq
  have HN := Kp.mk hn
  have hw : Qu.wire ⟨qn, qt, qc⟩ = nameW qn ++ be16 qt ++ be16 qc := rfl
  rw [hw]
  clear hE hq hn hw
  dsimp only at hs ht hc hnl ⊢
  obtain ⟨ht0, ht1⟩ := ht
  obtain ⟨hc0, hc1'⟩ := hc
  go_enter Tryz.func17, Tryz.ntmps17
  go_wp2_with (fail)
  refine g2sn_ (writeB_good qn _ HS.out.env hs HN.out) HS ?_
  intro A1 c1 w1 hc1 hcm1 HC1 HM1 HB1 HS1
  have Hg1 := Kp.mk ((HB1.out.block _ (heap_lt Hg.out)).trans Hg.out)
  have d0 := blk_cell Hg1.out 0
  have d1 := blk_cell Hg1.out 1
  have d2 := blk_cell Hg1.out 2
  go_wp2_with (fail)
  refine b_ (question_calls ⟨qn, qt, qc⟩ _ HS1.out.env hs) HS1 ?_
  intro w2 HB2 HS2
  rw [HQ.out]
  have Hg2 := Kp.mk ((HB2.out.block _ (heap_lt Hg1.out)).trans Hg1.out)
  have HC2 := Kp.mk (Kd.C_below HC1.out HB2.out)
  obtain ⟨ns, hns⟩ : ∃ ns, nameW qn = ns := ⟨_, rfl⟩
  rw [hns] at hnl HC2 hc1 ⊢
  obtain ⟨ys, hys⟩ : ∃ ys, ns ++ be16 qt = ys := ⟨_, rfl⟩
  have hyl : ys.length ≤ 258 := by rw [← hys, List.length_append]; show ns.length + 2 ≤ 258; omega
  have H1 : Kp (∀ W, (Kd.int .u8).C W A1 ns.length ns → Calls Tryz.prog 51 #[.slice A1 ns.length c1, .int .i64 qt] W (Gives (Kd.slice 5 (Kd.int .u8)) ys W)) := ⟨fun W h => hys ▸ put16_calls A1 ns.length c1 ns qt W h hc1 (by omega) ht0 ht1⟩
  have H2 : Kp (∀ W A c, (Kd.int .u8).C W A ys.length ys → ys.length ≤ c → Calls Tryz.prog 51 #[.slice A ys.length c, .int .i64 qc] W (Gives (Kd.slice 5 (Kd.int .u8)) (ys ++ be16 qc) W)) := ⟨fun W A c h hc => put16_calls A ys.length c ys qc W h hc (by omega) hc0 hc1'⟩
  have HY := Kp.mk hys
  have HNS := Kp.mk hns
  clear d0 d1 d2 HC1 HM1 hns hys
  have f1 := blk_cell Hg2.out 1
  have f2 := blk_cell Hg2.out 2
  have HSd := Kp.mk (HS2.out.step (below_drew (Below.refl _ _)))
  have HCd := Kp.mk (Kd.C_below HC2.out (below_drew (Below.refl _ _)))
  have F1 : Kp (w2.drew.cell? ⟨w.heap.size, 1, none⟩ = some (.int .i64 qt)) := ⟨by simpa using f1⟩
  have F2 : Kp (w2.drew.cell? ⟨w.heap.size, 2, none⟩ = some (.int .i64 qc)) := ⟨by simpa using f2⟩
  go_wp2_with (fail)
  go_region_held3 (fun w' => w'.cell? ⟨w.heap.size, 1, none⟩ = some (.int .i64 qt) ∧ w'.cell? ⟨w.heap.size, 2, none⟩ = some (.int .i64 qc)) (first | go_keep | exact ⟨pw_cell_below HB3.out F1.out, pw_cell_below HB3.out F2.out⟩ | exact ⟨pw_cell_below HB4.out (pw_cell_below HB3.out F1.out), pw_cell_below HB4.out (pw_cell_below HB3.out F2.out)⟩)
    (first
      | (go_at_call 51; (with_reducible refine gs_ (H1.out _ HCd.out) HSd ?_); intro A3 c3 w3 hc3 hcm3 HC3 HM3 HB3 HS3)
      | (go_at_call 51; (with_reducible refine gs_ (H2.out _ _ _ HC3.out hc3) HS3 ?_); intro A4 c4 w4 hc4 hcm4 HC4 HM4 HB4 HS4))
  go_wp2
  go_ret2
  have h4 := HM4.out
  rw [List.length_append] at h4
  exact ⟨_, _, rfl, (by rw [HNS.out, HY.out]; obtain ⟨v', hv, hR⟩ := h4; exact ⟨v', hv, Kd.R_lower hR HS3.out.size⟩), er_none _ _ _, HS4.out.below⟩
end Go.Proofs.YtlkneoednkhleaaGreatDoor

namespace Go.Proofs.YtlkneoednkhleaaGreatDoor
open Go.RowKit Go.Proofs.YtlkneoednkhleaaGreatDoorW.PrintWords
set_option linter.unusedVariables false
set_option linter.unusedSimpArgs false
set_option maxRecDepth 100000
set_option maxHeartbeats 1000000

theorem be_be16 (v : Int) : be (be16 v) = v := by
  unfold be16
  rw [be_two]
  omega
theorem num_drop {xs : List Int} {a n : Int} {ys rest : List Int} (ha : 0 ≤ a) (hd : xs.drop a.toNat = ys ++ rest) (hl : (ys.length : Int) = n) (hn : 0 < n) : numV xs a n = be ys ∧ partE xs.length a n = .none ∧ a + n ≤ xs.length := by
  have hne : ys ++ rest ≠ [] := by intro h; have := (List.append_eq_nil_iff.1 h).1; subst this; simp at hl; omega
  have hx := drop_len xs a.toNat _ hd hne
  rw [List.length_append] at hx
  have hle : a ≤ xs.length - n := by omega
  refine ⟨?_, partE_ok ha (by omega) hle, by omega⟩
  unfold numV
  rw [askE_ok ha (by omega) hle, if_pos rfl, hd, show n.toNat = ys.length by omega, List.take_left' rfl]
theorem drop_more {xs : List Int} {a : Int} {ys rest : List Int} (ha : 0 ≤ a) (hd : xs.drop a.toNat = ys ++ rest) : xs.drop (a + ys.length).toNat = rest := by
  rw [show (a + (ys.length : Int)).toNat = a.toNat + ys.length by omega, ← List.drop_drop, hd, List.drop_left' rfl]
/-- A name that stands there. -/
theorem readN_drop (s : L) (hr : rightL s = true) {xs : List Int} {a : Int} {rest : List Int} (ha : 0 ≤ a) (hd : xs.drop a.toNat = nameW s ++ rest) : readN xs a = (s, a + (nameW s).length, .none) := by
  have hx : xs = xs.take a.toNat ++ (capL [] (wireOf (labelsOf s)) ++ 0 :: rest) := by
    conv => lhs; rw [← List.take_append_drop a.toNat xs, hd]
    rw [capL_nil]
    simp [nameW]
  have hl : (xs.take a.toNat).length = a.toNat := by
    have := congrArg List.length hd
    rw [List.length_drop, List.length_append] at this
    unfold nameW at this
    simp at this
    rw [List.length_take]
    omega
  have h := back_read s hr [] (xs.take a.toNat) rest
  rw [← hx] at h
  have e : ((xs.take a.toNat).length : Int) = a := by omega
  rw [hl] at h
  rw [hl] at e
  rw [e] at h
  unfold readN
  rw [if_neg (by omega), h]
  congr 2
  unfold nameW
  rw [List.length_append, List.length_singleton]
  omega
theorem quR_drop (q : Qu) (hq : q.right = true) {xs : List Int} {a : Int} {rest : List Int} (ha : 0 ≤ a) (hd : xs.drop a.toNat = q.wire ++ rest) : quR xs a = (q, a + q.wire.length, .none) := by
  obtain ⟨hn, ht, hc⟩ := Qu.right_mk hq
  have hd0 : xs.drop a.toNat = nameW q.name ++ (be16 q.typ ++ (be16 q.cls ++ rest)) := by rw [hd]; simp [Qu.wire]
  have h1 := readN_drop q.name hn ha hd0
  have hd1 := drop_more ha hd0
  have h2 := num_drop (a := a + (nameW q.name).length) (n := 2) (by omega) hd1 (by rfl) (by decide)
  have hd2 := drop_more (by omega) hd1
  have h3 := num_drop (a := a + (nameW q.name).length + 2) (n := 2) (by omega) hd2 (by rfl) (by decide)
  unfold quR
  rw [h1]
  dsimp only
  rw [if_neg (by simp), if_neg (by rw [h2.2.1]; simp), if_neg (by rw [h3.2.1]; simp), h2.1, h3.1, be_be16, be_be16]
  have hl : (q.wire.length : Int) = (nameW q.name).length + 4 := by
    unfold Qu.wire
    simp only [List.length_append]
    show (((nameW q.name).length + 2 + 2 : Nat) : Int) = _
    omega
  rw [hl, Int.add_assoc]
end Go.Proofs.YtlkneoednkhleaaGreatDoor

namespace Go.Proofs.YtlkneoednkhleaaGreatDoor
open Go.RowKit Go.Proofs.YtlkneoednkhleaaGreatDoorW.PrintWords
set_option linter.unusedVariables false
set_option linter.unusedSimpArgs false
set_option maxRecDepth 100000
set_option maxHeartbeats 1000000

theorem quR_awake : quR [0, 0, 1, 0, 1] 0 = (⟨[], 1, 1⟩, 5, .none) := quR_drop ⟨[], 1, 1⟩ (by decide +kernel) (xs := [0, 0, 1, 0, 1]) (a := 0) (rest := []) (by decide) (by decide +kernel)
theorem right_awake13 : Rec.right ⟨[], 9, 0, 0, Ad.zero, [], []⟩ = true := by decide +kernel
theorem awake13_calls (w : World) (hE : Env w) : Calls Tryz.prog 10 #[] w fun e w' => e = .returned (.bool true) ∧ Below w.heap.size w w' := by
  have HS := Kp.mk (St.start hE)
  have hR := lit_bytes w w.heap.size [0, 0, 1, 0, 1] (Nat.le_refl _) (by decide)
  have HC := Kp.mk (R_C hR).1
  have HS0 := Kp.mk (HS.out.alloc (.cells (([0, 0, 1, 0, 1] : List Int).map (Value.int .u8)).toArray 5))
  have HR := Kp.mk (fun (w : World) (hE : Env w) => rightRec_calls ⟨[], 9, 0, 0, Ad.zero, [], []⟩ none 0 w hE (by decide) (by decide) (by decide))
  rw [right_awake13] at HR
  clear hE hR
  go_enter Tryz.func10, Tryz.ntmps10
  go_wp2_with (fail)
  refine (quRead_calls _ _ [0, 0, 1, 0, 1] 0 _ _ _ _ HC.out (by unfold Byts; decide) (by decide) (by decide) HS0.out.env (by decide) (by decide) quR_awake).mono ?_
  rintro e1 w1 ⟨v, rfl, hm, hb⟩
  obtain rfl := er_open_none (erK.K_of_M hm)
  have HS1 := Kp.mk (HS0.out.step hb)
  have HS1a := Kp.mk (HS1.out.alloc (.cells #[.string (mkB []), .int .i64 1, .int .i64 1] 30))
  clear hm hb
  go_wp2_with (fail)
  refine b_ (HR.out _ HS1a.out.env) HS1a ?_
  intro w2 HB2 HS2
  go_wp2
  go_ret
  exact ⟨rfl, HS2.out.below⟩
end Go.Proofs.YtlkneoednkhleaaGreatDoor

namespace Go.Proofs.YtlkneoednkhleaaGreatDoor
open Go.RowKit Go.Proofs.YtlkneoednkhleaaGreatDoorW.PrintWords
set_option linter.unusedVariables false
set_option linter.unusedSimpArgs false
set_option maxRecDepth 100000
set_option maxHeartbeats 1000000

theorem stored_new {w w6 w7 : World} {o : Obj} {base : Nat} (h6 : Below base w w6) (h7 : Below base w w7) (hs : w7.heap.size = (w6.alloc o).heap.size) (hO : ∀ k, k ≠ w6.heap.size → w7.heap[k]? = (w6.alloc o).heap[k]?) : Below w6.heap.size w6 w7 :=
  ⟨h7.os.trans h6.os.symm, h7.tape.trans h6.tape.symm, h7.output.trans h6.output.symm, by rw [hs]; simp, fun k hk => (hO k (Nat.ne_of_lt hk)).trans (((Below.refl w6.heap.size w6).alloc (Nat.le_refl _) o).block k hk)⟩
end Go.Proofs.YtlkneoednkhleaaGreatDoor
