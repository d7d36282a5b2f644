/-
  Records that a law makes out of any: by their contract; they may be.
-/
import Derived.Test.YtclgffblfjhciaaGreatDoorZPlayR
namespace Go.Proofs.YtclgffblfjhciaaGreatDoor
open Go.RowKit Go.Proofs.YtclgffblfjhciaaGreatDoorW.PrintWords
set_option linter.unusedVariables false
set_option linter.unusedSimpArgs false
set_option maxRecDepth 100000
set_option maxHeartbeats 8000000

/-- A record that may be written, out of any. -/
def playR (r : Rec) : Rec :=
  ⟨playN r.name, portV r.typ, portV r.cls, r.ttl, if portV r.typ = 1 ∨ portV r.typ = 28 then playAd r.ad (decide (portV r.typ = 28)) else Ad.zero, if portV r.typ = 5 then playN r.tgt else [],
    if portV r.typ = 1 ∨ portV r.typ = 28 ∨ portV r.typ = 5 then [] else r.data.take 40⟩
theorem playAd_right (a : Ad) (v : Bool) : (playAd a v).right = true := by
  cases v
  · have h : (playAd a false).l.drop 4 = [0, 0, 0, 0, 0, 0, 0, 0, 0, 0, 0, 0] := rfl
    unfold Ad.right
    rw [h]
    rfl
  · rfl
theorem playR_right (r : Rec) : (playR r).right = true := by
  have h1 := (playN_right r.name).1
  have h2 := portV_range r.typ
  have h3 := portV_range r.cls
  have hq : Qu.right ⟨playN r.name, portV r.typ, portV r.cls⟩ = true := by simp [Qu.right, h1, within, h2, h3]
  have hn : rightL [] = true := by decide +kernel
  have hz : Ad.plain Ad.zero = true := by decide +kernel
  unfold Rec.right playR
  dsimp only
  rw [hq, Bool.true_and]
  unfold Rec.tail
  dsimp only
  by_cases t1 : portV r.typ = 1 ∨ portV r.typ = 28
  · have t5 : ¬ portV r.typ = 5 := by omega
    have ht : portV r.typ = 1 ∨ portV r.typ = 28 ∨ portV r.typ = 5 := by omega
    rw [if_pos t1, if_neg t5, if_pos ht, if_pos t1, hn, playAd_right]
    simp [playAd]
  · rw [if_neg t1, if_neg t1]
    by_cases t5 : portV r.typ = 5
    · have ht : portV r.typ = 1 ∨ portV r.typ = 28 ∨ portV r.typ = 5 := by omega
      rw [if_pos t5, if_pos ht, if_pos t5, (playN_right r.tgt).1, hz]
      simp
    · have ht : ¬ (portV r.typ = 1 ∨ portV r.typ = 28 ∨ portV r.typ = 5) := by omega
      rw [if_neg t5, if_neg ht, if_neg t5, hn, hz]
      simp
      omega
theorem playnameB (l : L) (w : World) (hs : l.length ≤ 9223372036854775807) : Calls Tryz.prog 16 #[.string (mkB l)] w fun e w' => e = .returned (.string (mkB (playN l))) ∧ Below w.heap.size w w' := playname_calls (mkB l) w hs
theorem cell_held {w : World} {o : Obj} {a : Addr} {v : Value} (hlt : a.block < w.heap.size) (h : w.cell? a = some v) : (w.alloc o).cell? a = some v := (World.cell?_alloc_lt _ _ _ hlt).trans h
theorem cell_heldB {w : World} {o : Obj} {a : Addr} {v : Value} (h : w.cell? a = some v) : (w.alloc o).cell? a = some v := cell_held (World.block_lt_of_cell? w a h) h
theorem cell_rowB {w : World} {o : Obj} {cs : Array Value} {a : Addr} {v : Value} (h : w.cell? a = some v) : ((w.alloc o).setRow w.heap.size cs).cell? a = some v := (cell_setRow_other _ _ _ _ (Nat.ne_of_lt (World.block_lt_of_cell? w a h))).trans (cell_heldB h)
theorem cell_rowA {w : World} {n i : Nat} {cs : Array Value} {v : Value} (h : w.cell? ⟨n, i, none⟩ = some v) : (w.setRow (n + 1 + 1) cs).cell? ⟨n, i, none⟩ = some v := (cell_setRow_other _ _ _ _ (by show n ≠ n + 1 + 1; omega)).trans h
theorem heap3 (w : World) (o1 o2 o : Obj) : (((w.alloc o1).alloc o2).alloc o).heap[w.heap.size + 1 + 1]? = some o := by
  have h1 := heap_new ((w.alloc o1).alloc o2) o
  have h3 : ((w.alloc o1).alloc o2).heap.size = w.heap.size + 1 + 1 := by simp
  rw [h3] at h1
  exact h1
theorem newA {W w3 : World} {g : Nat} {o : Obj} (h : Below W.heap.size W w3) (hg : W.heap[g]? = some o) : w3.heap[g]? = some o := (h.block _ (heap_lt hg)).trans hg
theorem put_rec (W : World) (g : Nat) (n : L) (t c l : Int) (hg : W.heap[g]? = some (.cells #[.string ⟨#[]⟩, .int .i64 0, .int .i64 0, .int .u32 0, .bool false, .int .u8 0, .int .u8 0, .int .u8 0, .int .u8 0, .int .u8 0, .int .u8 0, .int .u8 0, .int .u8 0, .int .u8 0, .int .u8 0, .int .u8 0, .int .u8 0, .int .u8 0, .int .u8 0, .int .u8 0, .int .u8 0, .string ⟨#[]⟩, .slice none 0 0] 37 (0, 0))) :
    (storeCells ⟨g, 0, none⟩ [.string (mkB n), .int .i64 t, .int .i64 c, .int .u32 l, .bool false, .int .u8 0, .int .u8 0, .int .u8 0, .int .u8 0, .int .u8 0, .int .u8 0, .int .u8 0, .int .u8 0, .int .u8 0, .int .u8 0, .int .u8 0, .int .u8 0, .int .u8 0, .int .u8 0, .int .u8 0, .int .u8 0, .string ⟨#[]⟩, .slice none 0 0] 0).run Tryz.prog W = .ok () (W.setRow g #[.string (mkB n), .int .i64 t, .int .i64 c, .int .u32 l, .bool false, .int .u8 0, .int .u8 0, .int .u8 0, .int .u8 0, .int .u8 0, .int .u8 0, .int .u8 0, .int .u8 0, .int .u8 0, .int .u8 0, .int .u8 0, .int .u8 0, .int .u8 0, .int .u8 0, .int .u8 0, .int .u8 0, .string ⟨#[]⟩, .slice none 0 0]) :=
  run_storeCells_from (P := Tryz.prog) g 37 [.string (mkB n), .int .i64 t, .int .i64 c, .int .u32 l, .bool false, .int .u8 0, .int .u8 0, .int .u8 0, .int .u8 0, .int .u8 0, .int .u8 0, .int .u8 0, .int .u8 0, .int .u8 0, .int .u8 0, .int .u8 0, .int .u8 0, .int .u8 0, .int .u8 0, .int .u8 0, .int .u8 0, .string ⟨#[]⟩, .slice none 0 0] 0 _ W hg rfl (fun v hv => by
    simp only [List.mem_cons, List.not_mem_nil, or_false] at hv
    rcases hv with rfl | rfl | rfl | rfl | rfl | rfl | rfl | rfl | rfl | rfl | rfl | rfl | rfl | rfl | rfl | rfl | rfl | rfl | rfl | rfl | rfl | rfl | rfl <;> rfl)
theorem heap_alloc_lt (w : World) (o : Obj) (k : Nat) (h : k < w.heap.size) : (w.alloc o).heap[k]? = w.heap[k]? := ((Below.refl w.heap.size w).alloc (Nat.le_refl _) o).block k h
structure PSt (w W : World) (g : Nat) (box : Array Value) (n : L) (t c l : Int) : Prop where
  hb : W.heap[w.heap.size]? = some (.cells box 37 (0, 0))
  hz : W.heap[w.heap.size + 1]? = some (.cells #[.string ⟨#[]⟩, .int .i64 0, .int .i64 0, .int .u32 0, .bool false, .int .u8 0, .int .u8 0, .int .u8 0, .int .u8 0, .int .u8 0, .int .u8 0, .int .u8 0, .int .u8 0, .int .u8 0, .int .u8 0, .int .u8 0, .int .u8 0, .int .u8 0, .int .u8 0, .int .u8 0, .int .u8 0, .string ⟨#[]⟩, .slice none 0 0] 37 (0, 0))
  hg : W.heap[g]? = some (.cells #[.string (mkB n), .int .i64 t, .int .i64 c, .int .u32 l, .bool false, .int .u8 0, .int .u8 0, .int .u8 0, .int .u8 0, .int .u8 0, .int .u8 0, .int .u8 0, .int .u8 0, .int .u8 0, .int .u8 0, .int .u8 0, .int .u8 0, .int .u8 0, .int .u8 0, .int .u8 0, .int .u8 0, .string ⟨#[]⟩, .slice none 0 0] 37 (0, 0))
  lt : w.heap.size + 1 < g
  be : Below w.heap.size w W
theorem psA {w W1 w3 : World} {box : Array Value} (n : L) (t c l : Int) (h : Below W1.heap.size W1 w3) (h1 : W1.heap = (((w.alloc (.cells box 37)).alloc (.cells #[.string ⟨#[]⟩, .int .i64 0, .int .i64 0, .int .u32 0, .bool false, .int .u8 0, .int .u8 0, .int .u8 0, .int .u8 0, .int .u8 0, .int .u8 0, .int .u8 0, .int .u8 0, .int .u8 0, .int .u8 0, .int .u8 0, .int .u8 0, .int .u8 0, .int .u8 0, .int .u8 0, .int .u8 0, .string ⟨#[]⟩, .slice none 0 0] 37)).alloc (.cells #[.string ⟨#[]⟩, .int .i64 0, .int .i64 0, .int .u32 0, .bool false, .int .u8 0, .int .u8 0, .int .u8 0, .int .u8 0, .int .u8 0, .int .u8 0, .int .u8 0, .int .u8 0, .int .u8 0, .int .u8 0, .int .u8 0, .int .u8 0, .int .u8 0, .int .u8 0, .int .u8 0, .int .u8 0, .string ⟨#[]⟩, .slice none 0 0] 37)).heap) (h2 : W1.os = w.os) (h3 : W1.tape = w.tape) (h4 : W1.output = w.output) :
    PSt w (w3.setRow (w.heap.size + 1 + 1) #[.string (mkB n), .int .i64 t, .int .i64 c, .int .u32 l, .bool false, .int .u8 0, .int .u8 0, .int .u8 0, .int .u8 0, .int .u8 0, .int .u8 0, .int .u8 0, .int .u8 0, .int .u8 0, .int .u8 0, .int .u8 0, .int .u8 0, .int .u8 0, .int .u8 0, .int .u8 0, .int .u8 0, .string ⟨#[]⟩, .slice none 0 0]) (w.heap.size + 1 + 1) box n t c l := by
  obtain ⟨t0, t1, tb⟩ := two_new w (.cells box 37) (.cells #[.string ⟨#[]⟩, .int .i64 0, .int .i64 0, .int .u32 0, .bool false, .int .u8 0, .int .u8 0, .int .u8 0, .int .u8 0, .int .u8 0, .int .u8 0, .int .u8 0, .int .u8 0, .int .u8 0, .int .u8 0, .int .u8 0, .int .u8 0, .int .u8 0, .int .u8 0, .int .u8 0, .int .u8 0, .string ⟨#[]⟩, .slice none 0 0] 37)
  have hs2 : ((w.alloc (.cells box 37)).alloc (.cells #[.string ⟨#[]⟩, .int .i64 0, .int .i64 0, .int .u32 0, .bool false, .int .u8 0, .int .u8 0, .int .u8 0, .int .u8 0, .int .u8 0, .int .u8 0, .int .u8 0, .int .u8 0, .int .u8 0, .int .u8 0, .int .u8 0, .int .u8 0, .int .u8 0, .int .u8 0, .int .u8 0, .int .u8 0, .string ⟨#[]⟩, .slice none 0 0] 37)).heap.size = w.heap.size + 1 + 1 := by simp
  have hs3 : W1.heap.size = w.heap.size + 3 := by rw [h1]; simp
  have q := heap3 w (.cells box 37) (.cells #[.string ⟨#[]⟩, .int .i64 0, .int .i64 0, .int .u32 0, .bool false, .int .u8 0, .int .u8 0, .int .u8 0, .int .u8 0, .int .u8 0, .int .u8 0, .int .u8 0, .int .u8 0, .int .u8 0, .int .u8 0, .int .u8 0, .int .u8 0, .int .u8 0, .int .u8 0, .int .u8 0, .int .u8 0, .string ⟨#[]⟩, .slice none 0 0] 37) (.cells #[.string ⟨#[]⟩, .int .i64 0, .int .i64 0, .int .u32 0, .bool false, .int .u8 0, .int .u8 0, .int .u8 0, .int .u8 0, .int .u8 0, .int .u8 0, .int .u8 0, .int .u8 0, .int .u8 0, .int .u8 0, .int .u8 0, .int .u8 0, .int .u8 0, .int .u8 0, .int .u8 0, .int .u8 0, .string ⟨#[]⟩, .slice none 0 0] 37)
  have b3 := tb.alloc (by rw [hs2]; omega) (.cells #[.string ⟨#[]⟩, .int .i64 0, .int .i64 0, .int .u32 0, .bool false, .int .u8 0, .int .u8 0, .int .u8 0, .int .u8 0, .int .u8 0, .int .u8 0, .int .u8 0, .int .u8 0, .int .u8 0, .int .u8 0, .int .u8 0, .int .u8 0, .int .u8 0, .int .u8 0, .int .u8 0, .int .u8 0, .string ⟨#[]⟩, .slice none 0 0] 37)
  have k0 : W1.heap[w.heap.size]? = some (.cells box 37) := by rw [h1, heap_alloc_lt _ _ _ (by rw [hs2]; omega)]; exact t0
  have k1 : W1.heap[w.heap.size + 1]? = some (.cells #[.string ⟨#[]⟩, .int .i64 0, .int .i64 0, .int .u32 0, .bool false, .int .u8 0, .int .u8 0, .int .u8 0, .int .u8 0, .int .u8 0, .int .u8 0, .int .u8 0, .int .u8 0, .int .u8 0, .int .u8 0, .int .u8 0, .int .u8 0, .int .u8 0, .int .u8 0, .int .u8 0, .int .u8 0, .string ⟨#[]⟩, .slice none 0 0] 37) := by rw [h1, heap_alloc_lt _ _ _ (by rw [hs2]; omega)]; exact t1
  have k2 : W1.heap[w.heap.size + 1 + 1]? = some (.cells #[.string ⟨#[]⟩, .int .i64 0, .int .i64 0, .int .u32 0, .bool false, .int .u8 0, .int .u8 0, .int .u8 0, .int .u8 0, .int .u8 0, .int .u8 0, .int .u8 0, .int .u8 0, .int .u8 0, .int .u8 0, .int .u8 0, .int .u8 0, .int .u8 0, .int .u8 0, .int .u8 0, .int .u8 0, .string ⟨#[]⟩, .slice none 0 0] 37) := by rw [h1]; exact q
  have j0 := newA h k0
  have j1 := newA h k1
  have j2 := newA h k2
  have hBW : Below w.heap.size w W1 := ⟨h2, h3, h4, by omega, fun k hk => by rw [h1]; exact b3.block k hk⟩
  have hB := hBW.trans (h.mono (by omega))
  exact ⟨(setRow_other _ _ _ _ (by omega)).trans j0, (setRow_other _ _ _ _ (by omega)).trans j1, setRow_heap _ _ _ _ _ _ j2, by omega, ⟨hB.os, hB.tape, hB.output, by rw [size_setRow]; exact hB.size, fun k hk => (setRow_other _ _ _ _ (by omega)).trans (hB.block k hk)⟩⟩
theorem psB {w W1 w3 : World} {box : Array Value} (n : L) (t c l : Int) (h : Below W1.heap.size W1 w3) (h1 : W1.heap = ((w.alloc (.cells box 37)).alloc (.cells #[.string ⟨#[]⟩, .int .i64 0, .int .i64 0, .int .u32 0, .bool false, .int .u8 0, .int .u8 0, .int .u8 0, .int .u8 0, .int .u8 0, .int .u8 0, .int .u8 0, .int .u8 0, .int .u8 0, .int .u8 0, .int .u8 0, .int .u8 0, .int .u8 0, .int .u8 0, .int .u8 0, .int .u8 0, .string ⟨#[]⟩, .slice none 0 0] 37)).heap) (h2 : W1.os = w.os) (h3 : W1.tape = w.tape) (h4 : W1.output = w.output) :
    PSt w ((w3.alloc (.cells #[.string ⟨#[]⟩, .int .i64 0, .int .i64 0, .int .u32 0, .bool false, .int .u8 0, .int .u8 0, .int .u8 0, .int .u8 0, .int .u8 0, .int .u8 0, .int .u8 0, .int .u8 0, .int .u8 0, .int .u8 0, .int .u8 0, .int .u8 0, .int .u8 0, .int .u8 0, .int .u8 0, .int .u8 0, .string ⟨#[]⟩, .slice none 0 0] 37)).setRow w3.heap.size #[.string (mkB n), .int .i64 t, .int .i64 c, .int .u32 l, .bool false, .int .u8 0, .int .u8 0, .int .u8 0, .int .u8 0, .int .u8 0, .int .u8 0, .int .u8 0, .int .u8 0, .int .u8 0, .int .u8 0, .int .u8 0, .int .u8 0, .int .u8 0, .int .u8 0, .int .u8 0, .int .u8 0, .string ⟨#[]⟩, .slice none 0 0]) w3.heap.size box n t c l := by
  obtain ⟨t0, t1, tb⟩ := two_new w (.cells box 37) (.cells #[.string ⟨#[]⟩, .int .i64 0, .int .i64 0, .int .u32 0, .bool false, .int .u8 0, .int .u8 0, .int .u8 0, .int .u8 0, .int .u8 0, .int .u8 0, .int .u8 0, .int .u8 0, .int .u8 0, .int .u8 0, .int .u8 0, .int .u8 0, .int .u8 0, .int .u8 0, .int .u8 0, .int .u8 0, .string ⟨#[]⟩, .slice none 0 0] 37)
  have hs2 : W1.heap.size = w.heap.size + 1 + 1 := by rw [h1]; simp
  have k0 : W1.heap[w.heap.size]? = some (.cells box 37) := by rw [h1]; exact t0
  have k1 : W1.heap[w.heap.size + 1]? = some (.cells #[.string ⟨#[]⟩, .int .i64 0, .int .i64 0, .int .u32 0, .bool false, .int .u8 0, .int .u8 0, .int .u8 0, .int .u8 0, .int .u8 0, .int .u8 0, .int .u8 0, .int .u8 0, .int .u8 0, .int .u8 0, .int .u8 0, .int .u8 0, .int .u8 0, .int .u8 0, .int .u8 0, .int .u8 0, .string ⟨#[]⟩, .slice none 0 0] 37) := by rw [h1]; exact t1
  have j0 := newA h k0
  have j1 := newA h k1
  have hsz := h.size
  have hBW : Below w.heap.size w W1 := ⟨h2, h3, h4, by omega, fun k hk => by rw [h1]; exact tb.block k hk⟩
  have hB := (hBW.trans (h.mono (by omega))).alloc (by omega) (.cells #[.string ⟨#[]⟩, .int .i64 0, .int .i64 0, .int .u32 0, .bool false, .int .u8 0, .int .u8 0, .int .u8 0, .int .u8 0, .int .u8 0, .int .u8 0, .int .u8 0, .int .u8 0, .int .u8 0, .int .u8 0, .int .u8 0, .int .u8 0, .int .u8 0, .int .u8 0, .int .u8 0, .int .u8 0, .string ⟨#[]⟩, .slice none 0 0] 37)
  exact ⟨(setRow_other _ _ _ _ (by omega)).trans ((heap_alloc_lt _ _ _ (by omega)).trans j0), (setRow_other _ _ _ _ (by omega)).trans ((heap_alloc_lt _ _ _ (by omega)).trans j1), setRow_heap _ _ _ _ _ _ (heap_new _ _), by omega, ⟨hB.os, hB.tape, hB.output, by rw [size_setRow]; exact hB.size, fun k hk => (setRow_other _ _ _ _ (by omega)).trans (hB.block k hk)⟩⟩
def PlayRPost (r : Rec) (w : World) (e : Ending) (w' : World) : Prop :=
  ∃ A c, e = .returned (.agg (recA r (.slice A r.data.length c))) ∧ (Kd.int .u8).R 5 w' w.heap.size (fun _ => True) (.slice A r.data.length c) r.data ∧ Below w.heap.size w w'
theorem playRec_calls (r : Rec) (A : Option Addr) (c : Nat) (w : World) (h : (Kd.int .u8).C w A r.data.length r.data) (hc : r.data.length ≤ c) (hn : r.name.length ≤ 9223372036854775807) (htg : r.tgt.length ≤ 9223372036854775807) :
    Calls Tryz.prog 20 #[.agg (recA r (.slice A r.data.length c))] w (PlayRPost (playR r) w) := by
  obtain ⟨rn, rt, rc, rl, ⟨v6, b⟩, rtg, rd⟩ := r
  have HC := Kp.mk h
  have HB0 := Kp.mk (((Below.refl w.heap.size w).alloc (Nat.le_refl _) (.cells #[.string (mkB rn), .int .i64 rt, .int .i64 rc, .int .u32 rl, .bool v6, .int .u8 (b 0), .int .u8 (b 1), .int .u8 (b 2), .int .u8 (b 3), .int .u8 (b 4), .int .u8 (b 5), .int .u8 (b 6), .int .u8 (b 7), .int .u8 (b 8), .int .u8 (b 9), .int .u8 (b 10), .int .u8 (b 11), .int .u8 (b 12), .int .u8 (b 13), .int .u8 (b 14), .int .u8 (b 15), .string (mkB rtg), .slice A rd.length c] 37)).alloc (by simp) (.cells #[.string ⟨#[]⟩, .int .i64 0, .int .i64 0, .int .u32 0, .bool false, .int .u8 0, .int .u8 0, .int .u8 0, .int .u8 0, .int .u8 0, .int .u8 0, .int .u8 0, .int .u8 0, .int .u8 0, .int .u8 0, .int .u8 0, .int .u8 0, .int .u8 0, .int .u8 0, .int .u8 0, .int .u8 0, .string ⟨#[]⟩, .slice none 0 0] 37))
  obtain ⟨t0, t1, -⟩ := two_new w (.cells #[.string (mkB rn), .int .i64 rt, .int .i64 rc, .int .u32 rl, .bool v6, .int .u8 (b 0), .int .u8 (b 1), .int .u8 (b 2), .int .u8 (b 3), .int .u8 (b 4), .int .u8 (b 5), .int .u8 (b 6), .int .u8 (b 7), .int .u8 (b 8), .int .u8 (b 9), .int .u8 (b 10), .int .u8 (b 11), .int .u8 (b 12), .int .u8 (b 13), .int .u8 (b 14), .int .u8 (b 15), .string (mkB rtg), .slice A rd.length c] 37) (.cells #[.string ⟨#[]⟩, .int .i64 0, .int .i64 0, .int .u32 0, .bool false, .int .u8 0, .int .u8 0, .int .u8 0, .int .u8 0, .int .u8 0, .int .u8 0, .int .u8 0, .int .u8 0, .int .u8 0, .int .u8 0, .int .u8 0, .int .u8 0, .int .u8 0, .int .u8 0, .int .u8 0, .int .u8 0, .string ⟨#[]⟩, .slice none 0 0] 37)
  have H0 := Kp.mk t0
  have H1 := Kp.mk t1
  have hpr := portV_range rt
  obtain ⟨pt, hpt⟩ : ∃ pt, portV rt = pt := ⟨_, rfl⟩
  have HPT := Kp.mk hpt
  rw [hpt] at hpr
  obtain ⟨pc, hpc⟩ : ∃ pc, portV rc = pc := ⟨_, rfl⟩
  have HPC := Kp.mk hpc
  obtain ⟨pn, hpn⟩ : ∃ pn, playN rn = pn := ⟨_, rfl⟩
  have HPN := Kp.mk hpn
  have hP : playR ⟨rn, rt, rc, rl, ⟨v6, b⟩, rtg, rd⟩ = ⟨pn, pt, pc, rl, if pt = 1 ∨ pt = 28 then playAd ⟨v6, b⟩ (decide (pt = 28)) else Ad.zero, if pt = 5 then playN rtg else [], if pt = 1 ∨ pt = 28 ∨ pt = 5 then [] else rd.take 40⟩ := by
    unfold playR
    dsimp only
    rw [hpt, hpc, hpn]
  obtain ⟨pr, hpr2⟩ : ∃ pr, playR ⟨rn, rt, rc, rl, ⟨v6, b⟩, rtg, rd⟩ = pr := ⟨_, rfl⟩
  rw [hpr2] at hP ⊢
  have HP := Kp.mk hP
  have c0 : _ = some (Value.string (mkB rn)) := blk_cell t0 0
  have c1 : _ = some (Value.int .i64 rt) := blk_cell t0 1
  have c2 : _ = some (Value.int .i64 rc) := blk_cell t0 2
  have c3 : _ = some (Value.int .u32 rl) := blk_cell t0 3
  have CC := Kp.mk (And.intro c0 (And.intro c1 (And.intro c2 c3)))
  have HPQ : Kp (∀ W, Calls Tryz.prog 51 #[.int .i64 rt] W fun e w' => e = .returned (.int .i64 pt) ∧ W = w') := ⟨fun W => hpt ▸ port_calls rt W⟩
  have HPR : Kp (∀ W, Calls Tryz.prog 51 #[.int .i64 rc] W fun e w' => e = .returned (.int .i64 pc) ∧ W = w') := ⟨fun W => hpc ▸ port_calls rc W⟩
  have HPS : Kp (∀ W, Calls Tryz.prog 16 #[.string (mkB rn)] W fun e w' => e = .returned (.string (mkB pn)) ∧ Below W.heap.size W w') := ⟨fun W => hpn ▸ playnameB rn W hn⟩
  clear h hP hpt hpc hpn t0 t1 hpr2
  dsimp only at hc htg
  show Calls Tryz.prog 20 #[.agg #[.string (mkB rn), .int .i64 rt, .int .i64 rc, .int .u32 rl, .bool v6, .int .u8 (b 0), .int .u8 (b 1), .int .u8 (b 2), .int .u8 (b 3), .int .u8 (b 4), .int .u8 (b 5), .int .u8 (b 6), .int .u8 (b 7), .int .u8 (b 8), .int .u8 (b 9), .int .u8 (b 10), .int .u8 (b 11), .int .u8 (b 12), .int .u8 (b 13), .int .u8 (b 14), .int .u8 (b 15), .string (mkB rtg), .slice A rd.length c]] w _
  go_enter Tryz.func20, Tryz.ntmps20
  go_wp2_with (fail)
  obtain ⟨X, hX, hXr, hXn⟩ : ∃ X : Addr → List Value → Nat → Sem Unit, (∀ p l, storeCells p l 0 = X p l 0) ∧ (∀ (W : World) (g : Nat) (n : L) (t c l : Int), W.heap[g]? = some (.cells #[.string ⟨#[]⟩, .int .i64 0, .int .i64 0, .int .u32 0, .bool false, .int .u8 0, .int .u8 0, .int .u8 0, .int .u8 0, .int .u8 0, .int .u8 0, .int .u8 0, .int .u8 0, .int .u8 0, .int .u8 0, .int .u8 0, .int .u8 0, .int .u8 0, .int .u8 0, .int .u8 0, .int .u8 0, .string ⟨#[]⟩, .slice none 0 0] 37 (0, 0)) → (X ⟨g, 0, none⟩ [.string (mkB n), .int .i64 t, .int .i64 c, .int .u32 l, .bool false, .int .u8 0, .int .u8 0, .int .u8 0, .int .u8 0, .int .u8 0, .int .u8 0, .int .u8 0, .int .u8 0, .int .u8 0, .int .u8 0, .int .u8 0, .int .u8 0, .int .u8 0, .int .u8 0, .int .u8 0, .int .u8 0, .string ⟨#[]⟩, .slice none 0 0] 0).run Tryz.prog W = .ok () (W.setRow g #[.string (mkB n), .int .i64 t, .int .i64 c, .int .u32 l, .bool false, .int .u8 0, .int .u8 0, .int .u8 0, .int .u8 0, .int .u8 0, .int .u8 0, .int .u8 0, .int .u8 0, .int .u8 0, .int .u8 0, .int .u8 0, .int .u8 0, .int .u8 0, .int .u8 0, .int .u8 0, .int .u8 0, .string ⟨#[]⟩, .slice none 0 0])) ∧
      (∀ (W : World) (n : L) (t c l : Int), (X ⟨W.heap.size, 0, none⟩ [.string (mkB n), .int .i64 t, .int .i64 c, .int .u32 l, .bool false, .int .u8 0, .int .u8 0, .int .u8 0, .int .u8 0, .int .u8 0, .int .u8 0, .int .u8 0, .int .u8 0, .int .u8 0, .int .u8 0, .int .u8 0, .int .u8 0, .int .u8 0, .int .u8 0, .int .u8 0, .int .u8 0, .string ⟨#[]⟩, .slice none 0 0] 0).run Tryz.prog (W.alloc (.cells #[.string ⟨#[]⟩, .int .i64 0, .int .i64 0, .int .u32 0, .bool false, .int .u8 0, .int .u8 0, .int .u8 0, .int .u8 0, .int .u8 0, .int .u8 0, .int .u8 0, .int .u8 0, .int .u8 0, .int .u8 0, .int .u8 0, .int .u8 0, .int .u8 0, .int .u8 0, .int .u8 0, .int .u8 0, .string ⟨#[]⟩, .slice none 0 0] 37)) = .ok () ((W.alloc (.cells #[.string ⟨#[]⟩, .int .i64 0, .int .i64 0, .int .u32 0, .bool false, .int .u8 0, .int .u8 0, .int .u8 0, .int .u8 0, .int .u8 0, .int .u8 0, .int .u8 0, .int .u8 0, .int .u8 0, .int .u8 0, .int .u8 0, .int .u8 0, .int .u8 0, .int .u8 0, .int .u8 0, .int .u8 0, .string ⟨#[]⟩, .slice none 0 0] 37)).setRow W.heap.size #[.string (mkB n), .int .i64 t, .int .i64 c, .int .u32 l, .bool false, .int .u8 0, .int .u8 0, .int .u8 0, .int .u8 0, .int .u8 0, .int .u8 0, .int .u8 0, .int .u8 0, .int .u8 0, .int .u8 0, .int .u8 0, .int .u8 0, .int .u8 0, .int .u8 0, .int .u8 0, .int .u8 0, .string ⟨#[]⟩, .slice none 0 0])) := ⟨fun a l i => storeCells a l i, fun _ _ => rfl, put_rec, fun W n t c l => put_rec _ _ n t c l (heap_new W _)⟩
  go_region_held3 (fun w' => w'.cell? ⟨w.heap.size, 0, none⟩ = some (.string (mkB rn)) ∧ w'.cell? ⟨w.heap.size, 1, none⟩ = some (.int .i64 rt) ∧ w'.cell? ⟨w.heap.size, 2, none⟩ = some (.int .i64 rc) ∧ w'.cell? ⟨w.heap.size, 3, none⟩ = some (.int .u32 rl)) (first | go_keep | exact ⟨pw_cell_below HB3.out CC.out.1, pw_cell_below HB3.out CC.out.2.1, pw_cell_below HB3.out CC.out.2.2.1, pw_cell_below HB3.out CC.out.2.2.2⟩ | exact ⟨cell_heldB (pw_cell_below HB3.out CC.out.1), cell_heldB (pw_cell_below HB3.out CC.out.2.1), cell_heldB (pw_cell_below HB3.out CC.out.2.2.1), cell_heldB (pw_cell_below HB3.out CC.out.2.2.2)⟩ | exact ⟨cell_heldB CC.out.1, cell_heldB CC.out.2.1, cell_heldB CC.out.2.2.1, cell_heldB CC.out.2.2.2⟩ | exact ⟨pw_cell_below HB3.out (cell_heldB CC.out.1), pw_cell_below HB3.out (cell_heldB CC.out.2.1), pw_cell_below HB3.out (cell_heldB CC.out.2.2.1), pw_cell_below HB3.out (cell_heldB CC.out.2.2.2)⟩ | exact ⟨cell_rowB (pw_cell_below HB3.out CC.out.1), cell_rowB (pw_cell_below HB3.out CC.out.2.1), cell_rowB (pw_cell_below HB3.out CC.out.2.2.1), cell_rowB (pw_cell_below HB3.out CC.out.2.2.2)⟩ | exact ⟨cell_rowA (pw_cell_below HB3.out (cell_heldB CC.out.1)), cell_rowA (pw_cell_below HB3.out (cell_heldB CC.out.2.1)), cell_rowA (pw_cell_below HB3.out (cell_heldB CC.out.2.2.1)), cell_rowA (pw_cell_below HB3.out (cell_heldB CC.out.2.2.2))⟩)
    (first
      | (go_at_call 16; (with_reducible refine (HPS.out _).mono ?_); rintro e3 w3 ⟨rfl, hb3⟩; have HB3 := Kp.mk hb3; (first | have hg3 := fun n t c l => hXr w3 _ n t c l (newA hb3 (heap3 w _ _ _)) | skip); clear hb3)
      | (go_at_call 51; (with_reducible refine (HPQ.out _).mono ?_); rintro e4 w4 ⟨rfl, rfl⟩)
      | (go_at_call 51; (with_reducible refine (HPR.out _).mono ?_); rintro e4 w4 ⟨rfl, rfl⟩))
  all_goals
    clear hX hXr hXn
    first
      | have hp := psB (box := #[.string (mkB rn), .int .i64 rt, .int .i64 rc, .int .u32 rl, .bool v6, .int .u8 (b 0), .int .u8 (b 1), .int .u8 (b 2), .int .u8 (b 3), .int .u8 (b 4), .int .u8 (b 5), .int .u8 (b 6), .int .u8 (b 7), .int .u8 (b 8), .int .u8 (b 9), .int .u8 (b 10), .int .u8 (b 11), .int .u8 (b 12), .int .u8 (b 13), .int .u8 (b 14), .int .u8 (b 15), .string (mkB rtg), .slice A rd.length c]) pn pt pc rl HB3.out rfl rfl rfl rfl
        generalize (w3.alloc (.cells #[.string ⟨#[]⟩, .int .i64 0, .int .i64 0, .int .u32 0, .bool false, .int .u8 0, .int .u8 0, .int .u8 0, .int .u8 0, .int .u8 0, .int .u8 0, .int .u8 0, .int .u8 0, .int .u8 0, .int .u8 0, .int .u8 0, .int .u8 0, .int .u8 0, .int .u8 0, .int .u8 0, .int .u8 0, .string ⟨#[]⟩, .slice none 0 0] 37)).setRow w3.heap.size #[.string (mkB pn), .int .i64 pt, .int .i64 pc, .int .u32 rl, .bool false, .int .u8 0, .int .u8 0, .int .u8 0, .int .u8 0, .int .u8 0, .int .u8 0, .int .u8 0, .int .u8 0, .int .u8 0, .int .u8 0, .int .u8 0, .int .u8 0, .int .u8 0, .int .u8 0, .int .u8 0, .int .u8 0, .string ⟨#[]⟩, .slice none 0 0] = W at hp ⊢
        generalize w3.heap.size = g at hp ⊢
      | have hp := psA (box := #[.string (mkB rn), .int .i64 rt, .int .i64 rc, .int .u32 rl, .bool v6, .int .u8 (b 0), .int .u8 (b 1), .int .u8 (b 2), .int .u8 (b 3), .int .u8 (b 4), .int .u8 (b 5), .int .u8 (b 6), .int .u8 (b 7), .int .u8 (b 8), .int .u8 (b 9), .int .u8 (b 10), .int .u8 (b 11), .int .u8 (b 12), .int .u8 (b 13), .int .u8 (b 14), .int .u8 (b 15), .string (mkB rtg), .slice A rd.length c]) pn pt pc rl HB3.out rfl rfl rfl rfl
        generalize w3.setRow (w.heap.size + 1 + 1) #[.string (mkB pn), .int .i64 pt, .int .i64 pc, .int .u32 rl, .bool false, .int .u8 0, .int .u8 0, .int .u8 0, .int .u8 0, .int .u8 0, .int .u8 0, .int .u8 0, .int .u8 0, .int .u8 0, .int .u8 0, .int .u8 0, .int .u8 0, .int .u8 0, .int .u8 0, .int .u8 0, .int .u8 0, .string ⟨#[]⟩, .slice none 0 0] = W at hp ⊢
        generalize w.heap.size + 1 + 1 = g at hp ⊢
    have HP0 := Kp.mk hp
    clear hp
  all_goals
    have HB := Kp.mk HP0.out.hb
    have HZ := Kp.mk HP0.out.hz
    have HG := Kp.mk HP0.out.hg
    have HBE := Kp.mk HP0.out.be
    have HLT : Kp (w.heap.size ≤ g) := ⟨Nat.le_of_lt (Nat.lt_of_succ_lt HP0.out.lt)⟩
    have HNE : Kp (w.heap.size + 1 ≠ g) := ⟨Nat.ne_of_lt HP0.out.lt⟩
    have d1 : _ = some (Value.int .i64 pt) := blk_cell HG.out 1
    clear HP0 CC H0 H1 HB0
  all_goals
    by_cases t1 : pt = 1
    · subst t1
      have e1 : pr = ⟨pn, 1, pc, rl, playAd ⟨v6, b⟩ false, [], []⟩ := by rw [HP.out]; simp
      have HE := Kp.mk e1
      clear e1 hpr
      go_wp2_with (with_reducible refine ld_mid rfl 35 (.tmp 30) rfl w.heap.size 4 rfl HB Tryz.underlying35 rfl [.bool v6, .int .u8 (b 0), .int .u8 (b 1), .int .u8 (b 2), .int .u8 (b 3), .int .u8 (b 4), .int .u8 (b 5), .int .u8 (b 6), .int .u8 (b 7), .int .u8 (b 8), .int .u8 (b 9), .int .u8 (b 10), .int .u8 (b 11), .int .u8 (b 12), .int .u8 (b 13), .int .u8 (b 14), .int .u8 (b 15)] (by kernel_rfl) rfl ?_)
      refine (playAddr_calls ⟨v6, b⟩ false W).mono ?_
      rintro e5 w5 ⟨rfl, hb5⟩
      have HG5 := Kp.mk (newA hb5 HG.out)
      have HZ5 := Kp.mk (newA hb5 HZ.out)
      have HL5 := Kp.mk (HBE.out.trans (hb5.mono HBE.out.size))
      clear hb5
      go_wp2_with (with_reducible refine st_mid (w0 := w) (base := w.heap.size) rfl 35 (.tmp 36) (.tmp 35) rfl rfl g 4 _ rfl rfl HG5 (by kernel_rfl) (Nat.le_of_ble_eq_true (by kernel_rfl)) (by kernel_rfl) (new := recA ⟨pn, 1, pc, rl, playAd ⟨v6, b⟩ false, [], []⟩ (.slice none 0 0)) (by kernel_rfl) HL5 HLT.out ?_)
      intro w6 Hg6 HO6 HB6 hs6
      have HZ6 := Kp.mk ((HO6.out _ HNE.out).trans HZ5.out)
      clear hs6
      go_wp2_with (first | (with_reducible refine ld_blk rfl 37 (.tmp 3) rfl g rfl Hg6 Tryz.underlying37 rfl (by kernel_rfl) ?_) | (with_reducible refine st_blk (w0 := w) (base := w.heap.size) rfl 37 (.tmp 2) (.tmp 43) rfl rfl (w.heap.size + 1) _ rfl rfl HZ6 (by kernel_rfl) (by kernel_rfl) (by kernel_rfl) HB6 (Nat.le_succ _) ?_))
      intro w7 Hg7 HO7 HB7 hs7
      clear hs7
      go_wp2
      refine bodyPost_ret (results_cell_row rfl _ _ (w.heap.size + 1) _ _ (0, 0) _ rfl Hg7.out Tryz.underlying37 rfl (by kernel_rfl)) rfl ?_
      rw [HE.out]
      exact ⟨none, 0, rfl, Kd.R_nil _ _ _ _ _, HB7.out⟩
    by_cases t28 : pt = 28
    · subst t28
      have e1 : pr = ⟨pn, 28, pc, rl, playAd ⟨v6, b⟩ true, [], []⟩ := by rw [HP.out]; simp
      have HE := Kp.mk e1
      clear e1 hpr
      go_wp2_with (with_reducible refine ld_mid rfl 35 (.tmp 30) rfl w.heap.size 4 rfl HB Tryz.underlying35 rfl [.bool v6, .int .u8 (b 0), .int .u8 (b 1), .int .u8 (b 2), .int .u8 (b 3), .int .u8 (b 4), .int .u8 (b 5), .int .u8 (b 6), .int .u8 (b 7), .int .u8 (b 8), .int .u8 (b 9), .int .u8 (b 10), .int .u8 (b 11), .int .u8 (b 12), .int .u8 (b 13), .int .u8 (b 14), .int .u8 (b 15)] (by kernel_rfl) rfl ?_)
      refine (playAddr_calls ⟨v6, b⟩ true W).mono ?_
      rintro e5 w5 ⟨rfl, hb5⟩
      have HG5 := Kp.mk (newA hb5 HG.out)
      have HZ5 := Kp.mk (newA hb5 HZ.out)
      have HL5 := Kp.mk (HBE.out.trans (hb5.mono HBE.out.size))
      clear hb5
      go_wp2_with (with_reducible refine st_mid (w0 := w) (base := w.heap.size) rfl 35 (.tmp 36) (.tmp 35) rfl rfl g 4 _ rfl rfl HG5 (by kernel_rfl) (Nat.le_of_ble_eq_true (by kernel_rfl)) (by kernel_rfl) (new := recA ⟨pn, 28, pc, rl, playAd ⟨v6, b⟩ true, [], []⟩ (.slice none 0 0)) (by kernel_rfl) HL5 HLT.out ?_)
      intro w6 Hg6 HO6 HB6 hs6
      have HZ6 := Kp.mk ((HO6.out _ HNE.out).trans HZ5.out)
      clear hs6
      go_wp2_with (first | (with_reducible refine ld_blk rfl 37 (.tmp 3) rfl g rfl Hg6 Tryz.underlying37 rfl (by kernel_rfl) ?_) | (with_reducible refine st_blk (w0 := w) (base := w.heap.size) rfl 37 (.tmp 2) (.tmp 43) rfl rfl (w.heap.size + 1) _ rfl rfl HZ6 (by kernel_rfl) (by kernel_rfl) (by kernel_rfl) HB6 (Nat.le_succ _) ?_))
      intro w7 Hg7 HO7 HB7 hs7
      clear hs7
      go_wp2
      refine bodyPost_ret (results_cell_row rfl _ _ (w.heap.size + 1) _ _ (0, 0) _ rfl Hg7.out Tryz.underlying37 rfl (by kernel_rfl)) rfl ?_
      rw [HE.out]
      exact ⟨none, 0, rfl, Kd.R_nil _ _ _ _ _, HB7.out⟩
    by_cases t5 : pt = 5
    · subst t5
      obtain ⟨tg, htg2⟩ : ∃ tg, playN rtg = tg := ⟨_, rfl⟩
      have hN := playnameB rtg W htg
      have e1 : pr = ⟨pn, 5, pc, rl, Ad.zero, tg, []⟩ := by rw [HP.out, ← htg2]; simp
      rw [htg2] at hN
      have HE := Kp.mk e1
      have HN5 := Kp.mk hN
      have d21 : _ = some (Value.string (mkB rtg)) := blk_cell HB.out 21
      clear e1 hpr hN htg2
      go_wp2_with (fail)
      refine HN5.out.mono ?_
      rintro e5 w5 ⟨rfl, hb5⟩
      have HG5 := Kp.mk (newA hb5 HG.out)
      have HZ5 := Kp.mk (newA hb5 HZ.out)
      have HL5 := Kp.mk (HBE.out.trans (hb5.mono HBE.out.size))
      clear hb5 d1 d21 HN5
      have f21 : _ = some (Value.string ⟨#[]⟩) := blk_cell HG5.out 21
      have z21 := blk_frozen HG5.out 21
      have hg6 : _ = some (Obj.cells (recA ⟨pn, 5, pc, rl, Ad.zero, tg, []⟩ (.slice none 0 0)) _ _) := blk_put HG5.out 21 (.string (mkB tg)) rfl
      have HG6 := Kp.mk hg6
      have HZ6 := Kp.mk (blk_far (p := ⟨g, 21, none⟩) HZ5.out HNE.out (.string (mkB tg)))
      have HB6 := Kp.mk (HL5.out.setCell (p := ⟨g, 21, none⟩) HLT.out (.string (mkB tg)))
      clear hg6
      go_wp2_with (first | (with_reducible refine ld_blk rfl 37 (.tmp 3) rfl g rfl HG6 Tryz.underlying37 rfl (by kernel_rfl) ?_) | (with_reducible refine st_blk (w0 := w) (base := w.heap.size) rfl 37 (.tmp 2) (.tmp 43) rfl rfl (w.heap.size + 1) _ rfl rfl HZ6 (by kernel_rfl) (by kernel_rfl) (by kernel_rfl) HB6 (Nat.le_succ _) ?_))
      intro w7 Hg7 HO7 HB7 hs7
      clear hs7
      go_wp2
      refine bodyPost_ret (results_cell_row rfl _ _ (w.heap.size + 1) _ _ (0, 0) _ rfl Hg7.out Tryz.underlying37 rfl (by kernel_rfl)) rfl ?_
      rw [HE.out]
      exact ⟨none, 0, rfl, Kd.R_nil _ _ _ _ _, HB7.out⟩
    obtain ⟨m, hm⟩ : ∃ m : Nat, min rd.length 40 = m := ⟨_, rfl⟩
    have d22 : _ = some (Value.slice A rd.length c) := blk_cell HB.out 22
    have hmi : min (rd.length : Int) 40 = (m : Int) := by omega
    have hmc : (m : Int) ≤ (c : Int) := by omega
    have hm40 : m ≤ 40 := by omega
    obtain ⟨ds, hds⟩ : ∃ ds, rd.take 40 = ds := ⟨_, rfl⟩
    have hdm : rd.take m = ds := by
      rw [← hds, ← hm]
      by_cases h : rd.length ≤ 40
      · rw [Nat.min_eq_left h, List.take_of_length_le (Nat.le_refl _), List.take_of_length_le h]
      · rw [Nat.min_eq_right (by omega)]
    have hdl : ds.length = m := by rw [← hdm, List.length_take]; omega
    have hC := Kd.C_take (m := m) (Kd.C_below HC.out HBE.out) (by omega)
    rw [hdm, hdl] at hC
    have HD := Kp.mk hC
    have e1 : pr = ⟨pn, pt, pc, rl, Ad.zero, [], ds⟩ := by rw [HP.out, hds]; simp [t1, t28, t5]
    have HE := Kp.mk e1
    have HDL := Kp.mk hdl
    clear e1 hpr hC hdm hds hm hdl
    go_wp2_with (at_builtin; (with_reducible refine gate_builtin (b := .append) (xs := #[.const (.slice none 0 0), .tmp 24]) rfl ?_); go_must (refine app_bytesG (w0 := W) (base := W.heap.size) (s := .const (.slice none 0 0)) (x := .tmp 24) (v := .slice none 0 0) rfl rfl [] ds A m c rfl rfl (Kd.R_nil _ _ _ _ _) HD.out (Below.refl _ _) (Nat.le_refl _) (by show 0 + m ≤ 140737488355328; omega) ?_))
    intro v5 w5 HR5 HB5 hs5 HG5
    have HG6 := Kp.mk (newA HB5.out HG.out)
    have HZ6 := Kp.mk (newA HB5.out HZ.out)
    have HL6 := Kp.mk (HBE.out.trans (HB5.out.mono HBE.out.size))
    have HLZ := Kp.mk (heap_lt HZ.out)
    obtain ⟨A5, c5, rfl⟩ := Kd.R_slice HR5.out
    clear hs5 HG5 d1 d22 hmi hmc
    have f22 : _ = some (Value.slice none 0 0) := blk_cell HG6.out 22
    have z22 := blk_frozen HG6.out 22
    have hg7 : _ = some (Obj.cells (recA ⟨pn, pt, pc, rl, Ad.zero, [], ds⟩ (.slice A5 ds.length c5)) _ _) := blk_put HG6.out 22 (.slice A5 ds.length c5) rfl
    have HG7 := Kp.mk hg7
    have HZ7 := Kp.mk (blk_far (p := ⟨g, 22, none⟩) HZ6.out HNE.out (.slice A5 ds.length c5))
    have HB7 := Kp.mk (HL6.out.setCell (p := ⟨g, 22, none⟩) HLT.out (.slice A5 ds.length c5))
    have HR7 := Kp.mk (Kd.R_set HR5.out HG6.out (by decide) 22 (.slice A5 ds.length c5))
    clear hg7
    go_wp2_with (first | (with_reducible refine ld_blk rfl 37 (.tmp 3) rfl g rfl HG7 Tryz.underlying37 rfl (by kernel_rfl) ?_) | (with_reducible refine st_blk (w0 := w) (base := w.heap.size) rfl 37 (.tmp 2) (.tmp 43) rfl rfl (w.heap.size + 1) _ rfl rfl HZ7 (by kernel_rfl) (by kernel_rfl) (by kernel_rfl) HB7 (Nat.le_succ _) ?_))
    intro w8 Hg8 HO8 HB8 hs8
    clear hs8
    go_wp2
    refine bodyPost_ret (results_cell_row rfl _ _ (w.heap.size + 1) _ _ (0, 0) _ rfl Hg8.out Tryz.underlying37 rfl (by kernel_rfl)) rfl ?_
    rw [HE.out]
    exact ⟨A5, c5, rfl, Kd.R_lower (R_stored HR7.out HLZ.out HO8.out) HBE.out.size, HB8.out⟩
end Go.Proofs.YtclgffblfjhciaaGreatDoor
