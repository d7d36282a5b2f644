/-
  Package name: Labels, size, Right, Under, Write, by their contracts.
-/
import Derived.Test.YtlkneoednkhleaaGreatDoorYNameA
import Derived.Test.YtlkneoednkhleaaGreatDoorYPlainA
import Derived.Test.YtlkneoednkhleaaGreatDoorYShelf
namespace Go.Proofs.YtlkneoednkhleaaGreatDoor
open Go.RowKit Go.Proofs.YtlkneoednkhleaaGreatDoorW.PrintWords
set_option linter.unusedVariables false
set_option linter.unusedSimpArgs false
set_option maxRecDepth 100000
set_option maxHeartbeats 1000000

/-- A row of texts that has just been made. -/
theorem strs_new (w : World) (l : List ByteArray) (hm : l.length ≤ 9223372036854775807) : strsK.M (w.alloc (.cells (l.map Value.string).toArray 9)) w.heap.size (fun _ => True) l [.slice (some ⟨w.heap.size, 0, none⟩) l.length l.length] := by
  refine ⟨_, rfl, Kd.R_of_own ?_ (fun _ _ => trivial)⟩
  have h := World.ownsRow_lit (base := w.heap.size) (e := 9) (size := 1) w (l.map Value.string).toArray l.length (Nat.le_refl _) (by simpa [maxLen] using hm) (by simp)
  simpa [encs] using h

theorem splitD_len (l : L) : (splitD l).length ≤ l.length + 1 := by
  induction l with
  | nil => simp [splitD]
  | cons c l ih =>
    unfold splitD
    split
    · simpa using ih
    · split
      · simp
      · rename_i h
        rw [h] at ih
        simp at ih ⊢
        omega
theorem labels_calls (s : ByteArray) (w : World) (hE : Env w) (hs : s.size < 4294967281) : Calls Tryz.prog 88 #[.string s] w (Gives strsK ((labelsOf s.data.toList).map mkB) w) := by
  obtain ⟨m, hm⟩ := hE.maxLen
  by_cases h0 : s.data.toList = []
  · have hl : labelsOf s.data.toList = [] := by simp [labelsOf, h0]
    rw [hl]
    have b0 : s.toList.isEmpty = true := by rw [ByteArray.toList_eq]; simp [h0]
    clear hl
    go_enter Tryz.func88, Tryz.ntmps88
    go_wp2
    go_ret
    exact ⟨_, rfl, ⟨_, rfl, Kd.R_nil _ _ _ _ _⟩, Below.refl _ _⟩
  · have hl : labelsOf s.data.toList = splitD s.data.toList := by simp [labelsOf, h0]
    rw [hl]
    have b0 : s.toList.isEmpty = false := by rw [ByteArray.toList_eq]; simpa using h0
    have H := Kp.mk (Tryz.strings_Split s dotB m w hs hm (Nat.le_refl 1))
    have HS := Kp.mk (strs_new w ((splitD s.data.toList).map mkB) (by have := splitD_len s.data.toList; have : s.data.toList.length = s.size := data_length s; simp; omega))
    have HC := Kp.mk (splitD_count s)
    have HB := Kp.mk (splitB_dot s)
    clear hl hm
    go_enter Tryz.func88, Tryz.ntmps88
    go_wp2_with (fail)
    refine H.out.mono ?_
    rintro e w1 ⟨rfl, rfl⟩
    rw [HC.out, HB.out]
    have HS' := HS.out
    rw [List.length_map, List.map_map] at HS'
    have HS2 := Kp.mk HS'
    clear HS' HS
    go_wp2
    go_ret
    exact ⟨_, rfl, HS2.out, (Below.refl _ _).alloc (Nat.le_refl _) _⟩

theorem sz_snoc (l : List L) (x : L) : sizeOf_ (l ++ [x]) = sizeOf_ l + (1 + x.length) := by simp [sizeOf_]; omega
theorem sz_le (l : List L) (k : Nat) : sizeOf_ (l.take k) ≤ sizeOf_ l := by
  have h : l = l.take k ++ l.drop k := (List.take_append_drop k l).symm
  conv => rhs; rw [h]
  simp only [sizeOf_, List.map_append, List.sum_append]
  omega
theorem size_calls (A : Option Addr) (n c : Nat) (l : List L) (w : World) (h : Kd.string.C w A n (l.map mkB)) (hz : sizeOf_ l ≤ 9223372036854775807) :
    Calls Tryz.prog 96 #[.slice A n c] w fun e w' => e = .returned (.int .i64 (sizeOf_ l)) ∧ w = w' := by
  obtain ⟨hl, hm⟩ := C_len h
  rw [List.length_map] at hl
  have HC := Kp.mk h
  have HL := Kp.mk hl
  have HZ := Kp.mk hz
  clear h hl hz
  go_enter Tryz.func96, Tryz.ntmps96
  go_wp2_with (fail)
  go_loop [3, 8] (fun v i => ∃ k : Nat, k ≤ n ∧ i = .int .i64 k ∧ v = .int .i64 (sizeOf_ (l.take k) : Nat)) (fun _ i => n - (intOf i).toNat)
  case atStart => exact ⟨0, Nat.zero_le _, rfl, rfl⟩
  case round =>
    obtain ⟨k, hk, rfl, rfl⟩ := hrel
    by_cases hlt : k < n
    · obtain ⟨ad, rfl, hcell⟩ := at_natS HC.out k hlt
      have hgx : (l.map mkB).getD k ByteArray.empty = mkB (l.getD k []) := by simp [List.getD_eq_getElem?_getD, HL.out, hlt]
      rw [hgx] at hcell
      have hts := take_snoc l [] k (by rw [HL.out]; exact hlt)
      obtain ⟨x, hx⟩ : ∃ x, l.getD k [] = x := ⟨_, rfl⟩
      rw [hx] at hcell hts
      have hsz := sz_le l (k + 1)
      rw [hts, sz_snoc] at hsz
      have hz := HZ.out
      have hxs : (mkB x).size = x.length := rfl
      have hsn : sizeOf_ (l.take (k + 1)) = sizeOf_ (l.take k) + (1 + x.length) := by rw [hts, sz_snoc]
      have HSN := Kp.mk hsn
      clear hgx hts hx hsn
      obtain ⟨y, hy⟩ : ∃ y, sizeOf_ (l.take k) = y := ⟨_, rfl⟩
      rw [hy] at hsz HSN ⊢
      clear hy
      go_wp2
      exact ⟨⟨k + 1, by omega, by go_num, by rw [HSN.out]; go_num⟩, by simp [intOf]; omega⟩
    · obtain rfl : k = n := by omega
      have ht : l.take k = l := List.take_of_length_le (by rw [HL.out]; omega)
      rw [ht]
      clear ht hlt
      go_wp2
      go_ret
      exact ⟨rfl, rfl⟩
end Go.Proofs.YtlkneoednkhleaaGreatDoor
