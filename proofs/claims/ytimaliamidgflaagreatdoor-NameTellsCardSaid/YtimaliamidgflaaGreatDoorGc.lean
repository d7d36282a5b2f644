/-
  Several texts of this seat in one: NameA, PlainA, NameB, NameC, NameD, NameE, NameF.
-/
import Derived.Test.YtimaliamidgflaaGreatDoorGb
import Derived.Lib.SplitLaws
import Derived.Lib.Join
import Derived.Test.YtimaliamidgflaaGreatDoorShelf
import Derived.Deep.RegionWith
import Derived.Deep.LoopGhost
namespace Go.Proofs.YtimaliamidgflaaGreatDoor
open Go.RowKit Go.Proofs.YtimaliamidgflaaGreatDoorW.PrintWords
set_option maxRecDepth 100000
set_option maxHeartbeats 1000000

/-- A byte that may not stand in a label. -/
def badB (c : Int) : Bool := decide (c < 33) || decide (126 < c) || c == 46 || (decide (65 ≤ c) && decide (c ≤ 90))

theorem bad_calls (c : Int) (w : World) : Calls Tryz.prog 55 #[.int .u8 c] w fun e w' => e = .returned (.bool (badB c)) ∧ w = w' := by
  have hb : badB c = badB c := rfl
  conv at hb => rhs; unfold badB
  by_cases h1 : c < 33
  · have b1 : decide (c < 33) = true := by simpa using h1
    rw [b1] at hb
    have HB := Kp.mk hb
    clear hb
    go_enter Tryz.func55, Tryz.ntmps55
    go_wp2
    go_ret
    exact ⟨by rw [HB.out]; rfl, rfl⟩
  have b1 : decide (c < 33) = false := by simpa using h1
  by_cases h2 : 126 < c
  · have b2 : decide (126 < c) = true := by simpa using h2
    rw [b1, b2] at hb
    have HB := Kp.mk hb
    clear hb
    go_enter Tryz.func55, Tryz.ntmps55
    go_wp2
    go_ret
    exact ⟨by rw [HB.out]; rfl, rfl⟩
  have b2 : decide (126 < c) = false := by simpa using h2
  by_cases h3 : c = 46
  · subst h3
    clear hb
    go_enter Tryz.func55, Tryz.ntmps55
    go_wp2
    go_ret
    exact ⟨rfl, rfl⟩
  have b3 : (c == 46) = false := by simpa using h3
  by_cases h4 : 65 ≤ c
  · have b4 : decide (65 ≤ c) = true := by simpa using h4
    by_cases h5 : c ≤ 90
    · have b5 : decide (c ≤ 90) = true := by simpa using h5
      rw [b1, b2, b3, b4, b5] at hb
      have HB := Kp.mk hb
      clear hb
      go_enter Tryz.func55, Tryz.ntmps55
      go_wp2
      go_ret
      exact ⟨by rw [HB.out]; rfl, rfl⟩
    · have b5 : decide (c ≤ 90) = false := by simpa using h5
      rw [b1, b2, b3, b4, b5] at hb
      have HB := Kp.mk hb
      clear hb
      go_enter Tryz.func55, Tryz.ntmps55
      go_wp2
      go_ret
      exact ⟨by rw [HB.out]; rfl, rfl⟩
  · have b4 : decide (65 ≤ c) = false := by simpa using h4
    rw [b1, b2, b3, b4] at hb
    have HB := Kp.mk hb
    clear hb
    go_enter Tryz.func55, Tryz.ntmps55
    go_wp2
    go_ret
    exact ⟨by rw [HB.out]; rfl, rfl⟩

/-- slices.IndexFunc, ContainsFunc at label's own function. -/
theorem indexB_calls (A : Option Addr) (n c : Nat) (xs : List Int) (w : World) (h : (Kd.int .u8).C w A n xs) :
    Calls Tryz.prog 68 #[.slice A n c, .func (.func 55) #[] #[]] w fun e w' => (∃ r : Int, e = .returned (.int .i64 r) ∧ decide (0 ≤ r) = xs.any badB) ∧ w = w' := by
  obtain ⟨hl, hm⟩ := C_len h
  have HC := Kp.mk h
  have HL := Kp.mk hl
  clear h hl
  go_enter Tryz.func68, Tryz.ntmps68
  go_wp2_with (fail)
  go_loop [8] (fun i => ∃ k : Nat, k ≤ n ∧ i = .int .i64 k ∧ Kp ((xs.take k).any badB = false)) (fun i => n - (intOf i).toNat)
  case atStart => exact ⟨0, Nat.zero_le _, rfl, ⟨by simp⟩⟩
  case round =>
    obtain ⟨k, hk, rfl, HA⟩ := hrel
    by_cases hlt : k < n
    · obtain ⟨ad, rfl, hcell⟩ := at_nat HC.out k hlt
      have HT := Kp.mk (take_snoc xs 0 k (by rw [HL.out]; exact hlt))
      obtain ⟨x, hx⟩ : ∃ x, xs.getD k 0 = x := ⟨_, rfl⟩
      have HX := Kp.mk (getD_mem xs 0 k (by rw [HL.out]; exact hlt))
      rw [hx] at hcell HT HX
      clear hx
      by_cases hb : badB x = true
      · go_wp2_with (go_at_call 55; refine (bad_calls _ _).mono ?_; rintro e w' ⟨rfl, rfl⟩)
        go_ret
        exact ⟨⟨k, rfl, by rw [List.any_eq_true.2 ⟨x, HX.out, hb⟩]; simp⟩, rfl⟩
      · have hb' : badB x = false := by simpa using hb
        clear hb
        go_wp2_with (go_at_call 55; refine (bad_calls _ _).mono ?_; rintro e w' ⟨rfl, rfl⟩)
        exact ⟨⟨k + 1, by omega, by go_num, ⟨by rw [HT.out, List.any_append, HA.out]; simp [hb']⟩⟩, by simp [intOf]; omega⟩
    · obtain rfl : k = n := by omega
      have ht : xs.take k = xs := List.take_of_length_le (by rw [HL.out]; omega)
      rw [ht] at HA
      clear ht hlt
      go_wp2
      go_ret
      exact ⟨⟨-1, rfl, by rw [HA.out]; rfl⟩, rfl⟩
theorem containsB_calls (A : Option Addr) (n c : Nat) (xs : List Int) (w : World) (h : (Kd.int .u8).C w A n xs) :
    Calls Tryz.prog 54 #[.slice A n c, .func (.func 55) #[] #[]] w fun e w' => e = .returned (.bool (xs.any badB)) ∧ w = w' := by
  have HC := Kp.mk h
  clear h
  go_enter Tryz.func54, Tryz.ntmps54
  go_wp2_with (fail)
  refine (indexB_calls _ _ _ _ _ HC.out).mono ?_
  rintro e w1 ⟨⟨r, rfl, hr⟩, rfl⟩
  have HR := Kp.mk hr
  clear hr
  go_wp2
  go_ret
  exact ⟨by rw [← HR.out]; rfl, rfl⟩

/-- May a text be a label? -/
def labelB (s : ByteArray) : Bool := decide (1 ≤ s.size) && decide (s.size ≤ 63) && !((bytesOf s).any badB)
theorem label_calls (s : ByteArray) (w : World) (hs : s.size ≤ 9223372036854775807) : Calls Tryz.prog 34 #[.string s] w fun e w' => e = .returned (.bool (labelB s)) ∧ Below w.heap.size w w' := by
  by_cases h1 : 1 ≤ s.size
  · by_cases h2 : s.size ≤ 63
    · have hb : labelB s = !((bytesOf s).any badB) := by simp [labelB, h1, h2]
      rw [hb]
      clear hb
      have kb := fun W => print_bytes (P := Tryz.prog) 9 22 5 Tryz.underlying9 Tryz.underlying22 Tryz.underlying5 s W
      go_enter Tryz.func34, Tryz.ntmps34
      go_wp2_with (fail)
      refine (containsB_calls _ _ _ (bytesOf s) _ (Kd.C_of_reads (bytes_reads _ _ s hs))).mono ?_
      rintro e w1 ⟨rfl, rfl⟩
      go_wp2
      go_ret
      exact ⟨rfl, bytes_below (Below.refl _ _) (Nat.le_refl _) _ _⟩
    · have hb : labelB s = false := by simp [labelB, h2]
      rw [hb]
      clear hb
      have b1 : decide (s.size ≤ 63) = false := by simpa using h2
      go_enter Tryz.func34, Tryz.ntmps34
      go_wp2
      go_ret
      exact ⟨rfl, Below.refl _ _⟩
  · have hb : labelB s = false := by simp [labelB, h1]
    rw [hb]
    clear hb
    have b1 : decide (1 ≤ s.size) = false := by simpa using h1
    go_enter Tryz.func34, Tryz.ntmps34
    go_wp2
    go_ret
    exact ⟨rfl, Below.refl _ _⟩
end Go.Proofs.YtimaliamidgflaaGreatDoor

namespace Go.Proofs.YtimaliamidgflaaGreatDoor
open Go Go.Lib

abbrev L := List UInt8
/-- A text, split at its dots. -/
def splitD : L → List L
  | [] => [[]]
  | c :: l => if c = 46 then [] :: splitD l else match splitD l with | [] => [[c]] | p :: ps => (c :: p) :: ps
theorem splitD_ne (l : L) : splitD l ≠ [] := by
  cases l with
  | nil => simp [splitD]
  | cons c l =>
    unfold splitD
    split
    · simp
    · split <;> simp
theorem index_cons (b : UInt8) (t : L) : index (b :: t) [46] = if b = 46 then 0 else if index t [46] = -1 then -1 else index t [46] + 1 := by
  rw [index]
  by_cases h : b = 46
  · subst h; simp [List.isPrefixOf]
  · have : ([46] : L).isPrefixOf (b :: t) = false := by simp [List.isPrefixOf]; exact fun e => h e.symm
    rw [this, if_neg h]
    simp
theorem split_dot (l : L) : split l [46] = splitD l := by
  induction l with
  | nil => rfl
  | cons b t ih =>
    by_cases hb : b = 46
    · subst hb
      have hi : index (46 :: t) [46] = ((0 : Nat) : Int) := by rw [index_cons]; simp
      have hc : count (46 :: t) [46] = 1 + count t [46] := by rw [count_hit (by simp) hi]; rfl
      unfold split
      rw [hc, Nat.add_comm 1]
      simp only [splitK, hi]
      simp only [splitD, if_true]
      rw [← ih]
      simp [split]
    · simp only [splitD, if_neg hb]
      rw [← ih]
      by_cases hm : index t [46] = -1
      · have hi : index (b :: t) [46] = -1 := by rw [index_cons, if_neg hb, if_pos hm]
        unfold split
        rw [count_miss hi, count_miss hm]
        simp [splitK]
      · obtain ⟨i, hi'⟩ : ∃ i : Nat, index t [46] = (i : Int) := ⟨(index t [46]).toNat, by have := index_ge t [46]; omega⟩
        have hi : index (b :: t) [46] = ((i + 1 : Nat) : Int) := by rw [index_cons, if_neg hb, if_neg hm, hi']; rfl
        unfold split
        rw [count_hit (by simp) hi, count_hit (by simp) hi', Nat.one_add, Nat.one_add]
        simp only [Nat.succ_eq_add_one]
        simp only [splitK, hi, hi']
        have e1 : ¬ ((((i + 1 : Nat) : Int)) == -1) = true := by simp; omega
        have e2 : ¬ (((i : Nat) : Int) == -1) = true := by simp
        rw [if_neg e1, if_neg e2]
        simp

/-- A name's labels. -/
def labelsOf (s : L) : List L := if s = [] then [] else splitD s
/-- How many bytes labels have as they are written. -/
def sizeOf_ (l : List L) : Nat := 1 + (l.map fun s => 1 + s.length).sum
def mkB (l : L) : ByteArray := ⟨l.toArray⟩
theorem mkB_toList (l : L) : (mkB l).data.toList = l := rfl
theorem mkB_of (s : ByteArray) : mkB s.data.toList = s := rfl
theorem mkB_size (l : L) : (mkB l).size = l.length := rfl
def dotB : ByteArray := ⟨#[46]⟩
theorem splitB_dot (s : ByteArray) : splitB dotB 0 (countB s dotB) s = (splitD s.data.toList).map mkB := by
  have h := splitB_data dotB 0 (countB s dotB) s
  have h2 : splitK dotB.data.toList 0 (countB s dotB) s.data.toList = splitD s.data.toList := split_dot s.data.toList
  rw [h2] at h
  rw [← h, List.map_map]
  conv => lhs; rw [← List.map_id (splitB dotB 0 (countB s dotB) s)]
  rfl
theorem splitD_count (s : ByteArray) : countB s dotB + 1 = (splitD s.data.toList).length := by
  have h : (splitD s.data.toList).length = (splitB dotB 0 (countB s dotB) s).length := by rw [splitB_dot, List.length_map]
  rw [h]
  exact (splitB_all dotB (Nat.le_refl 1) 0 _ s rfl).symm
end Go.Proofs.YtimaliamidgflaaGreatDoor

namespace Go.Proofs.YtimaliamidgflaaGreatDoor
open Go.RowKit Go.Proofs.YtimaliamidgflaaGreatDoorW.PrintWords
set_option maxRecDepth 100000
set_option maxHeartbeats 1000000

/-- A row of texts that has just been made. -/
theorem strs_new (w : World) (l : List ByteArray) (hm : l.length ≤ 9223372036854775807) : strsK.M (w.alloc (.cells (l.map Value.string).toArray 9)) w.heap.size (fun _ => True) l [.slice (some ⟨w.heap.size, 0, none⟩) l.length l.length] := by
  refine ⟨_, rfl, Kd.R_of_own ?_ (fun _ _ => trivial)⟩
  have h := World.ownsRow_lit (base := w.heap.size) (e := 9) (size := 1) w (l.map Value.string).toArray l.length (Nat.le_refl _) (by simpa [maxLen] using hm) (by simp)
  simpa [encs] using h

theorem splitD_len (l : L) : (splitD l).length ≤ l.length + 1 := by
  induction l with
  | nil => simp [splitD]
  | cons c l ih =>
    unfold splitD
    split
    · simpa using ih
    · split
      · simp
      · rename_i h
        rw [h] at ih
        simp at ih ⊢
        omega
theorem labels_calls (s : ByteArray) (w : World) (hE : Env w) (hs : s.size < 4294967281) : Calls Tryz.prog 15 #[.string s] w (Gives strsK ((labelsOf s.data.toList).map mkB) w) := by
  obtain ⟨m, hm⟩ := hE.maxLen
  by_cases h0 : s.data.toList = []
  · have hl : labelsOf s.data.toList = [] := by simp [labelsOf, h0]
    rw [hl]
    have b0 : s.toList.isEmpty = true := by rw [ByteArray.toList_eq]; simp [h0]
    clear hl
    go_enter Tryz.func15, Tryz.ntmps15
    go_wp2
    go_ret
    exact ⟨_, rfl, ⟨_, rfl, Kd.R_nil _ _ _ _ _⟩, Below.refl _ _⟩
  · have hl : labelsOf s.data.toList = splitD s.data.toList := by simp [labelsOf, h0]
    rw [hl]
    have b0 : s.toList.isEmpty = false := by rw [ByteArray.toList_eq]; simpa using h0
    have H := Kp.mk (Tryz.strings_Split s dotB m w hs hm (Nat.le_refl 1))
    have HS := Kp.mk (strs_new w ((splitD s.data.toList).map mkB) (by have := splitD_len s.data.toList; have : s.data.toList.length = s.size := data_length s; simp; omega))
    have HC := Kp.mk (splitD_count s)
    have HB := Kp.mk (splitB_dot s)
    clear hl hm
    go_enter Tryz.func15, Tryz.ntmps15
    go_wp2_with (fail)
    refine H.out.mono ?_
    rintro e w1 ⟨rfl, rfl⟩
    rw [HC.out, HB.out]
    have HS' := HS.out
    rw [List.length_map, List.map_map] at HS'
    have HS2 := Kp.mk HS'
    clear HS' HS
    go_wp2
    go_ret
    exact ⟨_, rfl, HS2.out, (Below.refl _ _).alloc (Nat.le_refl _) _⟩

theorem sz_snoc (l : List L) (x : L) : sizeOf_ (l ++ [x]) = sizeOf_ l + (1 + x.length) := by simp [sizeOf_]; omega
theorem sz_le (l : List L) (k : Nat) : sizeOf_ (l.take k) ≤ sizeOf_ l := by
  have h : l = l.take k ++ l.drop k := (List.take_append_drop k l).symm
  conv => rhs; rw [h]
  simp only [sizeOf_, List.map_append, List.sum_append]
  omega
theorem size_calls (A : Option Addr) (n c : Nat) (l : List L) (w : World) (h : Kd.string.C w A n (l.map mkB)) (hz : sizeOf_ l ≤ 9223372036854775807) :
    Calls Tryz.prog 31 #[.slice A n c] w fun e w' => e = .returned (.int .i64 (sizeOf_ l)) ∧ w = w' := by
  obtain ⟨hl, hm⟩ := C_len h
  rw [List.length_map] at hl
  have HC := Kp.mk h
  have HL := Kp.mk hl
  have HZ := Kp.mk hz
  clear h hl hz
  go_enter Tryz.func31, Tryz.ntmps31
  go_wp2_with (fail)
  go_loop [3, 8] (fun v i => ∃ k : Nat, k ≤ n ∧ i = .int .i64 k ∧ v = .int .i64 (sizeOf_ (l.take k) : Nat)) (fun _ i => n - (intOf i).toNat)
  case atStart => exact ⟨0, Nat.zero_le _, rfl, rfl⟩
  case round =>
    obtain ⟨k, hk, rfl, rfl⟩ := hrel
    by_cases hlt : k < n
    · obtain ⟨ad, rfl, hcell⟩ := at_natS HC.out k hlt
      have hgx : (l.map mkB).getD k ByteArray.empty = mkB (l.getD k []) := by simp [List.getD_eq_getElem?_getD, HL.out, hlt]
      rw [hgx] at hcell
      have hts := take_snoc l [] k (by rw [HL.out]; exact hlt)
      obtain ⟨x, hx⟩ : ∃ x, l.getD k [] = x := ⟨_, rfl⟩
      rw [hx] at hcell hts
      have hsz := sz_le l (k + 1)
      rw [hts, sz_snoc] at hsz
      have hz := HZ.out
      have hxs : (mkB x).size = x.length := rfl
      have hsn : sizeOf_ (l.take (k + 1)) = sizeOf_ (l.take k) + (1 + x.length) := by rw [hts, sz_snoc]
      have HSN := Kp.mk hsn
      clear hgx hts hx hsn
      obtain ⟨y, hy⟩ : ∃ y, sizeOf_ (l.take k) = y := ⟨_, rfl⟩
      rw [hy] at hsz HSN ⊢
      clear hy
      go_wp2
      exact ⟨⟨k + 1, by omega, by go_num, by rw [HSN.out]; go_num⟩, by simp [intOf]; omega⟩
    · obtain rfl : k = n := by omega
      have ht : l.take k = l := List.take_of_length_le (by rw [HL.out]; omega)
      rw [ht]
      clear ht hlt
      go_wp2
      go_ret
      exact ⟨rfl, rfl⟩
end Go.Proofs.YtimaliamidgflaaGreatDoor

namespace Go.Proofs.YtimaliamidgflaaGreatDoor
open Go.RowKit Go.Proofs.YtimaliamidgflaaGreatDoorW.PrintWords
set_option maxRecDepth 100000
set_option maxHeartbeats 1000000

theorem notLabel_calls (s : ByteArray) (w : World) (hs : s.size ≤ 9223372036854775807) : Calls Tryz.prog 33 #[.string s] w fun e w' => e = .returned (.bool (!labelB s)) ∧ Below w.heap.size w w' := by
  go_enter Tryz.func33, Tryz.ntmps33
  go_wp2_with (fail)
  refine (label_calls s w hs).mono ?_
  rintro e w1 ⟨rfl, hb⟩
  have HB := Kp.mk hb
  clear hb
  go_wp2
  go_ret
  exact ⟨rfl, HB.out⟩

theorem indexS_calls (A : Option Addr) (n c : Nat) (xs : List ByteArray) (w : World) (h : Kd.string.C w A n xs) (hs : ∀ x ∈ xs, x.size ≤ 9223372036854775807) :
    Calls Tryz.prog 53 #[.slice A n c, .func (.func 33) #[] #[]] w fun e w' => (∃ r : Int, e = .returned (.int .i64 r) ∧ decide (0 ≤ r) = xs.any (fun x => !labelB x)) ∧ Below w.heap.size w w' := by
  obtain ⟨hl, hm⟩ := C_len h
  have HC := Kp.mk h
  have HL := Kp.mk hl
  have HS := Kp.mk hs
  clear h hl hs
  go_enter Tryz.func53, Tryz.ntmps53
  go_wp2_with (fail)
  go_loopw [8] (fun i wr => ∃ k : Nat, k ≤ n ∧ i = .int .i64 k ∧ Kp ((xs.take k).any (fun x => !labelB x) = false) ∧ Kp (Below w.heap.size w wr)) (fun i _ => n - (intOf i).toNat)
  case atStart => exact ⟨0, Nat.zero_le _, rfl, ⟨by simp⟩, ⟨Below.refl _ _⟩⟩
  case round =>
    obtain ⟨k, hk, rfl, HA, HB⟩ := hrel
    by_cases hlt : k < n
    · obtain ⟨ad, rfl, hcell⟩ := at_natS (Kd.C_below HC.out HB.out) k hlt
      have HT := Kp.mk (take_snoc xs ByteArray.empty k (by rw [HL.out]; exact hlt))
      obtain ⟨x, hx⟩ : ∃ x, xs.getD k ByteArray.empty = x := ⟨_, rfl⟩
      have HX := Kp.mk (getD_mem xs ByteArray.empty k (by rw [HL.out]; exact hlt))
      rw [hx] at hcell HT HX
      clear hx
      by_cases hb : labelB x = true
      · go_wp2_with (fail)
        refine (notLabel_calls x _ (HS.out x HX.out)).mono ?_
        rintro e w1 ⟨rfl, hb1⟩
        have HB1 := Kp.mk (below_step HB.out hb1)
        have HA1 : Kp ((xs.take (k + 1)).any (fun x => !labelB x) = false) := ⟨by rw [HT.out, List.any_append, HA.out]; simp [hb]⟩
        clear hb1 HB
        rw [hb]
        clear hb
        go_wp2
        exact ⟨⟨k + 1, by omega, by go_num, HA1, HB1⟩, by simp [intOf]; omega⟩
      · have hb' : labelB x = false := by simpa using hb
        go_wp2_with (fail)
        refine (notLabel_calls x _ (HS.out x HX.out)).mono ?_
        rintro e w1 ⟨rfl, hb1⟩
        have HB1 := Kp.mk (below_step HB.out hb1)
        have HA1 : Kp (xs.any (fun x => !labelB x) = true) := ⟨List.any_eq_true.2 ⟨x, HX.out, by simp [hb']⟩⟩
        clear hb1 HB hb
        rw [hb']
        clear hb'
        go_wp2
        go_ret
        exact ⟨⟨k, rfl, by rw [HA1.out]; simp⟩, HB1.out⟩
    · obtain rfl : k = n := by omega
      have ht : xs.take k = xs := List.take_of_length_le (by rw [HL.out]; omega)
      rw [ht] at HA
      clear ht hlt
      go_wp2
      go_ret
      exact ⟨⟨-1, rfl, by rw [HA.out]; rfl⟩, HB.out⟩
theorem containsS_calls (A : Option Addr) (n c : Nat) (xs : List ByteArray) (w : World) (h : Kd.string.C w A n xs) (hs : ∀ x ∈ xs, x.size ≤ 9223372036854775807) :
    Calls Tryz.prog 32 #[.slice A n c, .func (.func 33) #[] #[]] w fun e w' => e = .returned (.bool (xs.any (fun x => !labelB x))) ∧ Below w.heap.size w w' := by
  have HC := Kp.mk h
  have HS := Kp.mk hs
  clear h hs
  go_enter Tryz.func32, Tryz.ntmps32
  go_wp2_with (fail)
  refine (indexS_calls _ _ _ _ _ HC.out HS.out).mono ?_
  rintro e w1 ⟨⟨r, rfl, hr⟩, hb⟩
  have HR := Kp.mk hr
  have HB := Kp.mk hb
  clear hr hb
  go_wp2
  go_ret
  exact ⟨by rw [← HR.out]; rfl, HB.out⟩

/-- May a text be a name? -/
def rightL (s : L) : Bool := decide (sizeOf_ (labelsOf s) ≤ 255) && !((labelsOf s).any (fun x => !labelB (mkB x)))

theorem splitD_sz (l : L) : sizeOf_ (splitD l) = l.length + 2 := by
  induction l with
  | nil => rfl
  | cons c l ih =>
    unfold splitD
    split
    · simp [sizeOf_] at ih ⊢; omega
    · split
      · rename_i h
        exact absurd h (splitD_ne l)
      · rename_i h
        rw [h] at ih
        simp [sizeOf_] at ih ⊢
        omega
theorem labels_sz (l : L) : sizeOf_ (labelsOf l) = if l = [] then 1 else l.length + 2 := by
  unfold labelsOf
  split
  · rfl
  · exact splitD_sz l
theorem mem_sz {l : List L} {x : L} (h : x ∈ l) : x.length < sizeOf_ l := by
  induction l with
  | nil => simp at h
  | cons a l ih =>
    rcases List.mem_cons.1 h with rfl | h
    · simp [sizeOf_]; omega
    · have := ih h
      simp [sizeOf_] at this ⊢
      omega
theorem mem_labels {s : L} {x : ByteArray} (h : x ∈ (labelsOf s).map mkB) : x.size < s.length + 2 := by
  obtain ⟨y, hy, rfl⟩ := List.mem_map.1 h
  have h1 := mem_sz hy
  rw [labels_sz] at h1
  show y.length < _
  split at h1 <;> omega
theorem right_calls (s : ByteArray) (w : World) (hE : Env w) (hs : s.size < 4294967281) : Calls Tryz.prog 12 #[.string s] w fun e w' => e = .returned (.bool (rightL s.data.toList)) ∧ Below w.heap.size w w' := by
  have hz : sizeOf_ (labelsOf s.data.toList) ≤ s.size + 2 := by
    rw [labels_sz]
    have : s.data.toList.length = s.size := data_length s
    split <;> omega
  have HM : Kp (∀ x ∈ (labelsOf s.data.toList).map mkB, x.size ≤ 9223372036854775807) := ⟨fun x hx => by
    have h1 := mem_labels hx
    have : s.data.toList.length = s.size := data_length s
    omega⟩
  have H := Kp.mk (labels_calls s w hE hs)
  unfold rightL
  obtain ⟨l, hl⟩ : ∃ l, labelsOf s.data.toList = l := ⟨_, rfl⟩
  rw [hl] at hz HM H ⊢
  clear hl hE
  have hz2 : sizeOf_ l ≤ 9223372036854775807 := by omega
  have HZ := Kp.mk hz2
  clear hz hz2
  by_cases h5 : sizeOf_ l ≤ 255
  · have b5 : decide (((sizeOf_ l : Nat) : Int) ≤ 255) = true := by simp; omega
    have e5 : decide (sizeOf_ l ≤ 255) = true := by simpa using h5
    rw [e5, Bool.true_and]
    clear e5 h5
    go_enter Tryz.func12, Tryz.ntmps12
    go_wp2_with (fail)
    refine H.out.mono ?_
    rintro e w1 ⟨v, rfl, hm, hb⟩
    have HB := Kp.mk hb
    obtain ⟨A, c, rfl, hc, hC⟩ := slice_open (strsK.K_of_M hm)
    rw [List.length_map] at hC ⊢
    have HC := Kp.mk hC
    clear hb hm hC
    go_wp2_with (fail)
    refine (size_calls _ _ _ _ _ HC.out HZ.out).mono ?_
    rintro e w2 ⟨rfl, rfl⟩
    go_wp2_with (fail)
    refine (containsS_calls _ _ _ _ _ HC.out HM.out).mono ?_
    rintro e w2 ⟨rfl, hb2⟩
    have HB2 := Kp.mk (below_step HB.out hb2)
    clear hb2
    go_wp2
    go_ret
    exact ⟨rfl, HB2.out⟩
  · have b5 : decide (((sizeOf_ l : Nat) : Int) ≤ 255) = false := by simp; omega
    have e5 : decide (sizeOf_ l ≤ 255) = false := by simpa using h5
    rw [e5, Bool.false_and]
    clear e5 h5
    go_enter Tryz.func12, Tryz.ntmps12
    go_wp2_with (fail)
    refine H.out.mono ?_
    rintro e w1 ⟨v, rfl, hm, hb⟩
    have HB := Kp.mk hb
    obtain ⟨A, c, rfl, hc, hC⟩ := slice_open (strsK.K_of_M hm)
    rw [List.length_map] at hC ⊢
    have HC := Kp.mk hC
    clear hb hm hC
    go_wp2_with (fail)
    refine (size_calls _ _ _ _ _ HC.out HZ.out).mono ?_
    rintro e w2 ⟨rfl, rfl⟩
    go_wp2
    go_ret
    exact ⟨rfl, HB.out⟩

/-- A name as it is written. -/
def wireOf (l : List L) : List Int := (l.map fun s => (s.length : Int) :: s.map fun b => (b.toNat : Int)).flatten
theorem wire_snoc (l : List L) (x : L) : wireOf (l ++ [x]) = wireOf l ++ (((mkB x).size : Int) :: bytesOf (mkB x)) := by
  simp [wireOf, bytesOf, mkB_toList, mkB_size]
theorem wire_len (l : List L) : (wireOf l).length + 1 = sizeOf_ l := by
  induction l with
  | nil => rfl
  | cons x l ih =>
    simp [wireOf, sizeOf_] at ih ⊢
    omega
theorem wire_take (l : List L) (k : Nat) : (wireOf (l.take k)).length + 1 ≤ sizeOf_ l := by
  rw [wire_len]
  exact sz_le l k
theorem write_bad (s : ByteArray) (w : World) (hE : Env w) (hs : s.size < 4294967281) (hr : rightL s.data.toList = false) : Calls Tryz.prog 8 #[.string s] w (Gives2 bytesK erK [] (.code 13) w) := by
  have H := Kp.mk (right_calls s w hE hs)
  rw [hr] at H
  clear hr hE
  go_enter Tryz.func8, Tryz.ntmps8
  go_wp2_with (fail)
  refine H.out.mono ?_
  rintro e w1 ⟨rfl, hb⟩
  have HB := Kp.mk hb
  clear hb
  go_wp2
  go_ret2
  exact ⟨_, _, rfl, ⟨_, rfl, Kd.R_nil _ _ _ _ _⟩, er_code _ _ _ _, HB.out⟩
theorem write_good (s : ByteArray) (w : World) (hE : Env w) (hs : s.size < 4294967281) (hr : rightL s.data.toList = true) : Calls Tryz.prog 8 #[.string s] w (Gives2 bytesK erK (wireOf (labelsOf s.data.toList) ++ [0]) .none w) := by
  have H := Kp.mk (right_calls s w hE hs)
  rw [hr] at H
  have hz : sizeOf_ (labelsOf s.data.toList) ≤ 255 := by
    unfold rightL at hr
    simp at hr
    exact hr.1
  have HE := Kp.mk hE
  have HLC := Kp.mk (fun w h => labels_calls s w h hs)
  obtain ⟨l, hl⟩ : ∃ l, labelsOf s.data.toList = l := ⟨_, rfl⟩
  rw [hl] at hz HLC ⊢
  have HZ := Kp.mk hz
  have HT := Kp.mk (fun k => wire_take l k)
  clear hr hE hl hz
  go_enter Tryz.func8, Tryz.ntmps8
  go_wp2_with (fail)
  refine H.out.mono ?_
  rintro e w1 ⟨rfl, hb⟩
  have HB := Kp.mk hb
  clear hb
  go_wp2_with (fail)
  refine (HLC.out _ (HE.out.below HB.out)).mono ?_
  rintro e w2 ⟨v, rfl, hm, hb⟩
  have HB2 := Kp.mk (below_step HB.out hb)
  obtain ⟨A, c, rfl, hc, hC⟩ := slice_open (strsK.K_of_M hm)
  rw [List.length_map] at hC ⊢
  have HC := Kp.mk hC
  clear hb hm hC HB
  go_wp2_with (fail)
  have hln : l.length ≤ 9223372036854775807 := (C_len HC.out).2
  go_loopw [4, 14] (fun v i wr => ∃ k : Nat, k ≤ l.length ∧ i = .int .i64 k ∧ Kp (Below w2.heap.size w2 wr) ∧ Kp ((Kd.int .u8).R 5 wr w2.heap.size (fun _ => True) v (wireOf (l.take k)))) (fun _ i _ => l.length - (intOf i).toNat)
  case atStart => exact ⟨0, Nat.zero_le _, rfl, ⟨Below.refl _ _⟩, ⟨Kd.R_nil _ _ _ _ _⟩⟩
  case round =>
    obtain ⟨k, hk, rfl, HW, HR⟩ := hrel
    by_cases hlt : k < l.length
    · obtain ⟨ad, rfl, hcell⟩ := at_natS (Kd.C_below HC.out HW.out) k hlt
      have hgx : (l.map mkB).getD k ByteArray.empty = mkB (l.getD k []) := by simp [List.getD_eq_getElem?_getD, hlt]
      rw [hgx] at hcell
      have HTS := Kp.mk (take_snoc l [] k hlt)
      have HTW := Kp.mk (HT.out k)
      have HTW2 := Kp.mk (HT.out (k + 1))
      obtain ⟨x, hx⟩ : ∃ x, l.getD k [] = x := ⟨_, rfl⟩
      rw [hx] at hcell HTS
      clear hgx hx
      have hxs : (mkB x).size ≤ 253 := by
        have h1 := HTW2.out
        rw [HTS.out, wire_snoc] at h1
        simp only [List.length_append, List.length_cons, bytesOf_length] at h1
        have := HZ.out
        omega
      have hsz := HW.out.size
      go_wp2_with (at_builtin; with_reducible refine gate_builtin (b := .append) (xs := #[.tmp 18, .tmp 22]) rfl ?_; refine app_byte (w0 := w2) rfl rfl _ _ rfl rfl HR.out HW.out hsz (by have := HTW.out; have := HZ.out; omega) ?_)
      intro v1 wa HR1 HW1 hs1
      go_wp2_with (at_builtin; with_reducible refine gate_builtin (b := .append) (xs := #[.tmp 23, .tmp 24]) rfl ?_; refine app_str (w0 := w2) rfl rfl _ _ rfl rfl HR1.out HW1.out hs1.out (by have := HTW.out; have := HZ.out; simp only [List.length_append, List.length_singleton]; omega) ?_)
      intro v2 wb HR2 HW2 hs2
      go_wp2
      refine ⟨⟨k + 1, by omega, by go_num, HW2, ⟨?_⟩⟩, by simp [intOf]; omega⟩
      rw [HTS.out, wire_snoc]
      exact HR2.out
    · obtain rfl : k = l.length := by omega
      have ht : l.take l.length = l := List.take_length
      rw [ht] at HR
      have HTW := Kp.mk (HT.out l.length)
      rw [ht] at HTW
      have hsz := HW.out.size
      clear ht hlt
      go_wp2_with (at_builtin; refine app_byte (w0 := w2) rfl rfl _ _ rfl rfl HR.out HW.out hsz (by have := HTW.out; have := HZ.out; omega) ?_)
      intro v1 wa HR1 HW1 hs1
      go_wp2
      go_ret2
      exact ⟨_, _, rfl, ⟨_, rfl, Kd.R_lower HR1.out HB2.out.size⟩, er_none _ _ _, below_step HB2.out HW1.out⟩
end Go.Proofs.YtimaliamidgflaaGreatDoor

namespace Go.Proofs.YtimaliamidgflaaGreatDoor
open Go.RowKit Go.Proofs.YtimaliamidgflaaGreatDoorW.PrintWords
set_option maxRecDepth 100000
set_option maxHeartbeats 1000000

/-- Is a name a zone, or under it? -/
def underL (s z : L) : Bool := z.isEmpty || s == z || Lib.hasSuffix s (46 :: z)
theorem cat_one (c : UInt8) (z : ByteArray) : ((⟨#[c]⟩ : ByteArray) ++ z).data.toList = c :: z.data.toList := by simp
theorem under_calls (s z : ByteArray) (w : World) (hs : s.size ≤ 9223372036854775807) (hz : z.size ≤ 9223372036854775806) : Calls Tryz.prog 17 #[.string s, .string z] w fun e w' => e = .returned (.bool (underL s.data.toList z.data.toList)) ∧ w = w' := by
  have H := Kp.mk (fun p w => Tryz.strings_HasSuffix s p w hs)
  unfold underL
  rw [← ByteArray.toList_eq z, ← ByteArray.toList_eq s]
  by_cases h0 : z.toList.isEmpty = true
  · rw [h0]
    go_enter Tryz.func17, Tryz.ntmps17
    go_wp2
    go_ret
    exact ⟨rfl, rfl⟩
  · have b0 : z.toList.isEmpty = false := by simpa using h0
    rw [b0]
    clear h0
    by_cases h1 : (s.toList == z.toList) = true
    · rw [h1]
      go_enter Tryz.func17, Tryz.ntmps17
      go_wp2
      go_ret
      exact ⟨rfl, rfl⟩
    · have b1 : (s.toList == z.toList) = false := by simpa using h1
      rw [b1]
      clear h1
      go_enter Tryz.func17, Tryz.ntmps17
      go_wp2_with (fail)
      refine (H.out _ _).mono ?_
      rintro e w1 ⟨rfl, rfl⟩
      rw [cat_one]
      go_wp2
      go_ret
      refine ⟨?_, rfl⟩
      rw [← ByteArray.toList_eq z, ← ByteArray.toList_eq s]
      rfl

/-- Capitals made small. -/
def lowB (c : Int) : Int := if 65 ≤ c ∧ c ≤ 90 then c + 32 else c
/-- A row of the call's own that is not empty: where it lies. -/
theorem R_form {α : Type} {d : Kd α} {e base n c : Nat} {ok : Nat → Prop} {w : World} {A : Option Addr} {xs : List α} (h : d.R e w base ok (.slice A n c) xs) (hn : 0 < xs.length) : ∃ g, A = some ⟨g, 0, none⟩ ∧ base ≤ g ∧ n = xs.length := by
  obtain ⟨inner, ho⟩ := Kd.R_own h
  rcases ho.2 with ⟨h1, h2⟩ | ⟨g, cap, cur, hv, hg, _⟩
  · omega
  · injection hv with h1 h2 h3
    exact ⟨g, h1, hg, h2⟩
theorem lower_calls (A : Option Addr) (n c : Nat) (xs : List Int) (w : World) (h : (Kd.int .u8).C w A n xs) (hb : Byts xs) (hl : n ≤ 140737488355328) :
    Calls Tryz.prog 45 #[.slice A n c] w fun e w' => e = .returned (.string (strOfNums (xs.map lowB))) ∧ Below w.heap.size w w' := by
  have H := Kp.mk (cloneB_calls A n c xs w h hl)
  obtain ⟨hn, hm⟩ := C_len h
  obtain rfl := hn
  have HB := Kp.mk hb
  clear h hb
  go_enter Tryz.func45, Tryz.ntmps45
  go_wp2_with (fail)
  refine H.out.mono ?_
  rintro e w1 ⟨v, rfl, hm1, hb1⟩
  obtain ⟨v', hv, hR⟩ := hm1
  obtain rfl := List.singleton_inj.1 hv
  have HB1 := Kp.mk hb1
  have HR := Kp.mk hR
  obtain ⟨A1, c1, rfl⟩ := Kd.R_slice hR
  clear hR hb1 hv
  have hxl : xs.length ≤ 9223372036854775807 := by omega
  go_wp2_with (fail)
  go_loopw [9] (fun i wr => ∃ k : Nat, k ≤ xs.length ∧ i = .int .i64 k ∧ Kp (Below w.heap.size w wr) ∧ Kp ((Kd.int .u8).R 5 wr w.heap.size (fun _ => True) (.slice A1 xs.length c1) ((xs.take k).map lowB ++ xs.drop k))) (fun i _ => xs.length - (intOf i).toNat)
  case atStart => exact ⟨0, Nat.zero_le _, rfl, HB1, HR⟩
  case round =>
    obtain ⟨k, hk, rfl, HW, HRk⟩ := hrel
    by_cases hlt : k < xs.length
    · have hlen : ((xs.take k).map lowB ++ xs.drop k).length = xs.length := by simp; omega
      obtain ⟨g, rfl, hg, -⟩ := R_form HRk.out (by omega)
      have hget : rdOf 0 ((xs.take k).map lowB ++ xs.drop k) (k : Int) = xs.getD k 0 := by
        simp [rdOf, List.getD_eq_getElem?_getD, List.getElem?_append, Nat.min_eq_left (Nat.le_of_lt hlt)]
      obtain ⟨hcell, hfz⟩ := Kd.R_celln (0 : Int) HRk.out (k : Int) (by omega) (by omega)
      rw [hget] at hcell
      simp only [Int.toNat_natCast] at hcell hfz
      have hx := HB.out _ (getD_mem xs 0 k hlt)
      have HTS := Kp.mk (take_snoc xs 0 k hlt)
      have HDS : Kp (xs.drop k = xs.getD k 0 :: xs.drop (k + 1)) := ⟨by rw [List.drop_eq_getElem_cons hlt]; simp [List.getD_eq_getElem?_getD, hlt]⟩
      obtain ⟨x, hxe⟩ : ∃ x, xs.getD k 0 = x := ⟨_, rfl⟩
      rw [hxe] at hcell hx HTS HDS
      clear hget hxe hlen
      have HL0 : Kp (¬ (65 ≤ x ∧ x ≤ 90) → (xs.take (k + 1)).map lowB ++ xs.drop (k + 1) = (xs.take k).map lowB ++ xs.drop k) := ⟨fun h => by
        rw [HTS.out, HDS.out, List.map_append]
        simp [lowB, h]⟩
      by_cases h1 : 65 ≤ x
      · have b1 : decide (65 ≤ x) = true := by simpa using h1
        by_cases h2 : x ≤ 90
        · have b2 : decide (x ≤ 90) = true := by simpa using h2
          have hput := Kd.R_putn HRk.out (k : Int) (x - 65 + 97)
          have hset : (((xs.take k).map lowB ++ xs.drop k).set (k : Int).toNat (x - 65 + 97)) = (xs.take (k + 1)).map lowB ++ xs.drop (k + 1) := by
            rw [HTS.out, HDS.out, List.map_append, List.set_append_right _ _ (by simp; omega)]
            have h3 : lowB x = x - 65 + 97 := by unfold lowB; rw [if_pos ⟨h1, h2⟩]; omega
            simp [h3, Nat.min_eq_left (Nat.le_of_lt hlt)]
          rw [hset] at hput
          have HP : Kp ((Kd.int .u8).R 5 (wr.setCell ⟨g, k, none⟩ (.int .u8 (x - 65 + 97))) w.heap.size (fun _ => True) (.slice (some ⟨g, 0, none⟩) xs.length c1) ((xs.take (k + 1)).map lowB ++ xs.drop (k + 1))) := ⟨hput⟩
          clear HL0 hput hset
          go_wp2
          exact ⟨⟨k + 1, by omega, by go_num, ⟨HW.out.setCell hg _⟩, HP⟩, by simp [intOf]; omega⟩
        · have b2 : decide (x ≤ 90) = false := by simpa using h2
          have HL := Kp.mk (HL0.out (by omega))
          clear HL0 h2
          go_wp2
          exact ⟨⟨k + 1, by omega, by go_num, HW, ⟨by rw [HL.out]; exact HRk.out⟩⟩, by simp [intOf]; omega⟩
      · have b1 : decide (65 ≤ x) = false := by simpa using h1
        have HL := Kp.mk (HL0.out (by omega))
        clear HL0 h1
        go_wp2
        exact ⟨⟨k + 1, by omega, by go_num, HW, ⟨by rw [HL.out]; exact HRk.out⟩⟩, by simp [intOf]; omega⟩
    · obtain rfl : k = xs.length := by omega
      have e1 : (xs.take xs.length).map lowB ++ xs.drop xs.length = xs.map lowB := by simp
      rw [e1] at HRk
      have hCc := (Kd.R_reads' HRk.out).2.2
      rw [List.length_map] at hCc
      have kb := Kd.C_string (P := Tryz.prog) Tryz.underlying22 Tryz.underlying5 Tryz.underlying9 (c := c1) hCc
      clear e1 hlt hCc
      go_wp2
      go_ret
      exact ⟨rfl, HW.out⟩
end Go.Proofs.YtimaliamidgflaaGreatDoor

namespace Go.Proofs.YtimaliamidgflaaGreatDoor
open Go.RowKit Go.Proofs.YtimaliamidgflaaGreatDoorW.PrintWords
set_option maxRecDepth 100000
set_option maxHeartbeats 1000000

def lowL (xs : List Int) : L := xs.map fun x => UInt8.ofNat (lowB x).toNat
theorem low_str (xs : List Int) : strOfNums (xs.map lowB) = mkB (lowL xs) := by simp [strOfNums, mkB, lowL]
theorem low_len (xs : List Int) : (lowL xs).length = xs.length := by simp [lowL]
/-- What a label is read as. -/
def lab (xs : List Int) (a n : Int) : L := lowL ((xs.drop (a + 1).toNat).take n.toNat)
/-- read: why there is no label. -/
def readE (xs : List Int) (a n : Int) (ls : List L) : Er :=
  if (xs.length : Int) - n < a + 1 then .fault a 3 else if labelB (mkB (lab xs a n)) = false then .fault a 12 else if 255 < sizeOf_ (ls ++ [lab xs a n]) then .fault a 13 else .none

/-- How a walk lies in memory. -/
structure Walk (w : World) (B q : Nat) (a b e : Int) (v : Value) (ls : List L) : Prop where
  le : B ≤ q
  blk : w.heap[q]? = some (.cells #[.int .i64 a, .int .i64 b, .int .i64 e, v] 49 (0, 0))
  row : Kd.string.R 9 w B (fun _ => True) v (ls.map mkB)
theorem Walk.grow {w w1 : World} {B q : Nat} {a b e : Int} {v : Value} {ls : List L} (h : Walk w B q a b e v ls) (hb : Below w.heap.size w w1) : Walk w1 B q a b e v ls :=
  ⟨h.le, (hb.block q (heap_lt h.blk)).trans h.blk, Kd.R_below h.row hb⟩

theorem askE_short {len a n : Int} (h0 : 0 ≤ a) (hn : 0 < n) (h : len - n < a) : askE len a n = .code 3 := by
  unfold askE
  rw [if_neg (by omega), if_pos ⟨hn, h⟩]
theorem askE_ok {len a n : Int} (h0 : 0 ≤ a) (hn : 0 ≤ n) (h : a ≤ len - n) : askE len a n = .none := by
  unfold askE
  rw [if_neg (by omega), if_neg (by omega)]
theorem partE_short {len a n : Int} (h0 : 0 ≤ a) (hn : 0 < n) (h : len - n < a) : partE len a n = .fault a 3 := by
  unfold partE
  rw [askE_short h0 hn h]
  simp [shortE, Er.num, Er.deeper, Er.place]
theorem partE_ok {len a n : Int} (h0 : 0 ≤ a) (hn : 0 ≤ n) (h : a ≤ len - n) : partE len a n = .none := by
  unfold partE
  rw [askE_ok h0 hn h]
  rfl
theorem partV_short {xs : List Int} {a n : Int} (h0 : 0 ≤ a) (hn : 0 < n) (h : (xs.length : Int) - n < a) : partV xs a n = [] := by
  unfold partV
  rw [askE_short h0 hn h]
  rfl
theorem partV_ok {xs : List Int} {a n : Int} (h0 : 0 ≤ a) (hn : 0 ≤ n) (h : a ≤ xs.length - n) : partV xs a n = (xs.drop a.toNat).take n.toNat := by
  unfold partV
  rw [askE_ok h0 hn h]
  rfl

theorem read_short (q B : Nat) (A : Option Addr) (c : Nat) (xs : List Int) (a b e n : Int) (v : Value) (ls : List L) (w : World) (hw : Walk w B q a b e v ls) (h : (Kd.int .u8).C w A xs.length xs) (hc : xs.length ≤ c) (hcm : c ≤ 9223372036854775807) (hE : Env w) (hl : xs.length ≤ 140737488355328)
    (h0 : 0 ≤ a) (ha : a < xs.length) (hn : 1 ≤ n) (hn2 : n ≤ 63) (hB : B ≤ w.heap.size) (hs : (xs.length : Int) - n < a + 1) :
    Calls Tryz.prog 22 #[.pointer (some ⟨q, 0, none⟩), .slice A xs.length c, .int .i64 n] w fun ev w' => ∃ u, ev = .returned u ∧ erK.M w' B (fun _ => True) (.fault a 3) [u] ∧ Below w.heap.size w w' := by
  have hp : partE xs.length (a + 1) n = .fault (a + 1) 3 := partE_short (by omega) (by omega) hs
  have hv : partV xs (a + 1) n = [] := partV_short (by omega) (by omega) hs
  have H := Kp.mk (part_calls A c xs (a + 1) n w h hc hcm hE hl (by omega) (by omega) (by omega))
  rw [hp, hv] at H
  have HW := Kp.mk hw
  have hcell := blk_cell hw.blk 0
  clear hw h hE hp hv
  go_enter Tryz.func22, Tryz.ntmps22
  go_wp2_with (fail)
  refine H.out.mono ?_
  rintro e1 w1 ⟨v1, v2, rfl, hm1, hm2, hb⟩
  have HM := Kp.mk hm2
  obtain ⟨vv, hvv, -⟩ := hm1
  obtain rfl := List.singleton_inj.1 hvv
  have HB := Kp.mk hb
  have hcell1 := blk_cell (HW.out.grow hb).blk 0
  clear hm2 hvv hb hcell
  go_wp2_with (fail)
  refine (is_calls _ _ 3 _ (erK.K_of_M HM.out) (by decide) true rfl (by intro h; cases h)).mono ?_
  rintro e2 w2 ⟨rfl, rfl⟩
  go_wp2_with (fail)
  refine (wrap_calls _ _ _).mono ?_
  rintro e2 w2 ⟨rfl, rfl⟩
  go_wp2
  go_ret
  exact ⟨_, rfl, er_fault trivial (Nat.le_trans hB HB.out.size) (heap_new _ _), HB.out.alloc HB.out.size _⟩

theorem heap_at (w : World) (o : Obj) (k : Nat) (h : k = w.heap.size) : (w.alloc o).heap[k]? = some o := h ▸ heap_new w o
theorem len_sz (l : List L) : l.length ≤ sizeOf_ l := by
  induction l with
  | nil => simp
  | cons x l ih => simp [sizeOf_] at ih ⊢; omega
/-- What a read comes to. -/
def ReadPost (w : World) (B q : Nat) (a b e n : Int) (r : Er) (ls' : List L) (ev : Ending) (w' : World) : Prop :=
  (∃ u, ev = .returned u ∧ erK.M w' B (fun _ => True) r [u]) ∧ Below B w w' ∧ w.heap.size ≤ w'.heap.size ∧ (r = .none → ∃ v', Walk w' B q (a + 1 + n) b e v' ls')
/-- The read of a label that is there: what it comes to. -/
theorem read_there (q B : Nat) (A : Option Addr) (c : Nat) (xs : List Int) (a b e n : Int) (v : Value) (ls : List L) (w : World) (hw : Walk w B q a b e v ls) (h : (Kd.int .u8).C w A xs.length xs) (hx8 : Byts xs) (hc : xs.length ≤ c) (hcm : c ≤ 9223372036854775807) (hE : Env w) (hl : xs.length ≤ 140737488355328)
    (h0 : 0 ≤ a) (ha : a < xs.length) (hn : 1 ≤ n) (hn2 : n ≤ 63) (hB : B ≤ w.heap.size) (hs : a + 1 ≤ xs.length - n) (hz : sizeOf_ ls ≤ 255) :
    Calls Tryz.prog 22 #[.pointer (some ⟨q, 0, none⟩), .slice A xs.length c, .int .i64 n] w (ReadPost w B q a b e n (readE xs a n ls) (ls ++ [lab xs a n])) := by
  have hp : partE xs.length (a + 1) n = .none := partE_ok (by omega) (by omega) hs
  have hv : partV xs (a + 1) n = (xs.drop (a + 1).toNat).take n.toNat := partV_ok (by omega) (by omega) hs
  have H := Kp.mk (part_calls A c xs (a + 1) n w h hc hcm hE hl (by omega) (by omega) (by omega))
  rw [hp, hv] at H
  have hY : Byts ((xs.drop (a + 1).toNat).take n.toNat) := fun x hx => hx8 x (List.mem_of_mem_drop (List.mem_of_mem_take hx))
  have hyl : ((xs.drop (a + 1).toNat).take n.toNat).length ≤ 63 := by rw [List.length_take]; omega
  have hr : readE xs a n ls = if labelB (mkB (lab xs a n)) = false then .fault a 12 else if 255 < sizeOf_ (ls ++ [lab xs a n]) then .fault a 13 else .none := by
    unfold readE
    rw [if_neg (by omega)]
  have hlab : strOfNums (((xs.drop (a + 1).toNat).take n.toNat).map lowB) = mkB (lab xs a n) := low_str _
  have hll : (lab xs a n).length ≤ 63 := by unfold lab; rw [low_len]; exact hyl
  obtain ⟨ys, hys⟩ : ∃ ys, (xs.drop (a + 1).toNat).take n.toNat = ys := ⟨_, rfl⟩
  rw [hys] at H hY hyl hlab
  have HW := Kp.mk hw
  have HY := Kp.mk hY
  have hcell := blk_cell hw.blk 0
  obtain ⟨s, hse⟩ : ∃ s, lab xs a n = s := ⟨_, rfl⟩
  obtain ⟨r, hre⟩ : ∃ r, readE xs a n ls = r := ⟨_, rfl⟩
  rw [hse] at hlab hll hr ⊢
  rw [hre] at hr ⊢
  have HRE := Kp.mk hr
  have HLAB := Kp.mk hlab
  have HZ := Kp.mk hz
  have hsl : (mkB s).size ≤ 63 := hll
  have hqlt := heap_lt hw.blk
  clear hw h hE hp hv hr hys hY hx8 hse hlab hz hre
  go_enter Tryz.func22, Tryz.ntmps22
  go_wp2_with (fail)
  refine H.out.mono ?_
  rintro e1 w1 ⟨v1, v2, rfl, hm1, hm2, hb⟩
  obtain rfl := er_open_none (erK.K_of_M hm2)
  obtain ⟨A2, c2, rfl, hc2, hC2⟩ := slice_open (bytesK.K_of_M hm1)
  have HC2 := Kp.mk hC2
  have HW1 := Kp.mk (HW.out.grow hb)
  have HB := Kp.mk hb
  have hcell1 := blk_cell HW1.out.blk 0
  clear hm2 hm1 hC2 hb hcell
  go_wp2_with (fail)
  refine (is_nil 3 _).mono ?_
  rintro e2 w2 ⟨rfl, rfl⟩
  go_wp2_with (fail)
  refine (lower_calls A2 ys.length c2 ys _ HC2.out HY.out (by omega)).mono ?_
  rintro e2 w2 ⟨rfl, hb⟩
  rw [HLAB.out]
  have HW2 := Kp.mk (HW1.out.grow hb)
  have HB2 := Kp.mk (below_step HB.out hb)
  clear hcell1 hb
  go_wp2_with (fail)
  refine (label_calls _ _ (by omega)).mono ?_
  rintro e2 w3 ⟨rfl, hb⟩
  have HW3 := Kp.mk (HW2.out.grow hb)
  have HB3 := Kp.mk (below_step HB2.out hb)
  have hcell3 := blk_cell HW3.out.blk 0
  have hcell3d := blk_cell HW3.out.blk 3
  have hfz3 := blk_frozen HW3.out.blk 3
  clear hb HC2 HB2 HB
  by_cases hlb : labelB (mkB s) = false
  · obtain rfl : r = .fault a 12 := by rw [HRE.out, if_pos hlb]
    rw [hlb]
    go_wp2_with (fail)
    refine (wrap_calls _ _ _).mono ?_
    rintro e2 w4 ⟨rfl, rfl⟩
    go_wp2
    go_ret
    exact ⟨⟨_, rfl, er_fault trivial (Nat.le_trans hB HB3.out.size) (heap_new _ _)⟩, (HB3.out.mono hB).alloc (Nat.le_trans hB HB3.out.size) _, by simpa using Nat.le_succ_of_le HB3.out.size, fun h => by cases h⟩
  · have hlb' : labelB (mkB s) = true := by simpa using hlb
    have HRF : Kp (r = if 255 < sizeOf_ (ls ++ [s]) then .fault a 13 else .none) := ⟨by rw [HRE.out, if_neg hlb]⟩
    rw [hlb']
    clear hlb hlb'
    have hBw : B ≤ w3.heap.size := Nat.le_trans hB HB3.out.size
    have hls : ls.length < 256 := by
      have := len_sz ls
      have := HZ.out
      omega
    have HLS := Kp.mk hls
    clear hls
    go_wp2_with (at_builtin; refine app_textG (w0 := w3) rfl rfl _ _ rfl rfl HW3.out.row (Below.refl _ _) hBw (by have := HLS.out; simp only [List.length_map]; omega) ?_)
    intro v1 w4 HR4 HB4 hs4 HG4
    have hb4 := blk_grown HW3.out.blk HG4.out (Kd.R_ne HW3.out.row HW3.out.blk (by decide))
    have hcell4d := blk_cell hb4 3
    have hfz4d := blk_frozen hb4 3
    have hb5 := blk_put hb4 3 v1 (cs' := #[.int .i64 a, .int .i64 b, .int .i64 e, v1]) rfl
    have HR5 := Kp.mk (Kd.R_set HR4.out hb4 (by decide) 3 v1)
    have HB5 := Kp.mk hb5
    have hcell5 := blk_cell hb5 0
    have hcell5d := blk_cell hb5 3
    have hfz5 := blk_frozen hb5 0
    obtain ⟨A3, c3, hv1⟩ := Kd.R_slice HR4.out
    have hlen : (List.map mkB ls ++ [mkB s]).length = ls.length + 1 := by simp
    rw [hlen] at hv1
    subst hv1
    have hC5 := (R_C HR5.out).1
    have hmap : List.map mkB ls ++ [mkB s] = (ls ++ [s]).map mkB := by simp
    rw [hmap] at hC5
    have HC5 := Kp.mk hC5
    have HMAP := Kp.mk hmap
    have hszn : sizeOf_ (ls ++ [s]) ≤ 400 := by rw [sz_snoc]; have := HZ.out; omega
    have HSZN := Kp.mk hszn
    clear hb4 hb5 hC5 hlen hmap hszn
    go_wp2_with (fail)
    have hz5 : sizeOf_ (ls ++ [s]) ≤ 9223372036854775807 := by have := HSZN.out; omega
    have hsc := size_calls A3 _ c3 (ls ++ [s]) _ HC5.out hz5
    refine hsc.mono ?_
    rintro e2 w5 ⟨rfl, rfl⟩
    by_cases hbig : 255 < sizeOf_ (ls ++ [s])
    · obtain rfl : r = .fault a 13 := by rw [HRF.out, if_pos hbig]
      have bb : decide ((255 : Int) < ((sizeOf_ (ls ++ [s]) : Nat) : Int)) = true := by simp; omega
      go_wp2_with (fail)
      refine (wrap_calls _ _ _).mono ?_
      rintro e2 w6 ⟨rfl, rfl⟩
      go_wp2
      go_ret
      have hB4 := (HB3.out.mono hB).trans HB4.out
      have hle := HW.out.le
      exact ⟨⟨_, rfl, er_fault trivial (by simpa using hs4.out) (heap_at _ _ _ (by simp))⟩, (hB4.setCell hle _).alloc (by simpa using hs4.out) _, by have := hB4.size; simp; omega, fun h => by cases h⟩
    · obtain rfl : r = .none := by rw [HRF.out, if_neg hbig]
      have bb : decide ((255 : Int) < ((sizeOf_ (ls ++ [s]) : Nat) : Int)) = false := by simp; omega
      clear hbig
      go_wp2
      go_ret
      have hB4 := (HB3.out.mono hB).trans HB4.out
      have hle := HW.out.le
      have hrow := Kd.R_set HR5.out HB5.out (by decide) 0 (.int .i64 (a + (1 + n)))
      rw [HMAP.out] at hrow
      refine ⟨⟨_, rfl, er_none _ _ _⟩, (hB4.setCell hle _).setCell hle _, by have := hB4.size; simp; omega, fun _ => ⟨_, hle, blk_put HB5.out 0 _ ?_, hrow⟩⟩
      rw [Int.add_assoc]
      rfl

/-- leap: where a pointer leads; why nowhere. -/
def leapTo (xs : List Int) (a : Int) : Int := be ((xs.drop a.toNat).take 2) % 16384
def leapE (xs : List Int) (a b : Int) : Er := if (xs.length : Int) - 2 < a then .fault a 3 else if b ≤ leapTo xs a then .fault a 14 else .none
def LeapPost (w : World) (B q : Nat) (t e : Int) (ls : List L) (r : Er) (ev : Ending) (w' : World) : Prop :=
  (∃ u, ev = .returned u ∧ erK.M w' B (fun _ => True) r [u]) ∧ Below B w w' ∧ w.heap.size ≤ w'.heap.size ∧ (r = .none → ∃ v', Walk w' B q t t e v' ls)
theorem and_place (v : Int) (h0 : 0 ≤ v) (h1 : v < 65536) : bits .and .i64 v 16383 = v % 16384 := by
  obtain ⟨n, rfl⟩ := Int.eq_ofNat_of_zero_le h0
  have h := bits_mask .i64 16 (by decide) (fun n h0 h1 => IntWalk.i64_in n (by omega)) 14 (by decide) (n : Int) (by omega) (by omega)
  simpa using h
theorem leap_calls (q B : Nat) (A : Option Addr) (c : Nat) (xs : List Int) (a b e e' : Int) (v : Value) (ls : List L) (w : World) (hw : Walk w B q a b e v ls) (h : (Kd.int .u8).C w A xs.length xs) (hx8 : Byts xs) (hc : xs.length ≤ c) (hcm : c ≤ 9223372036854775807) (hE : Env w) (hl : xs.length ≤ 140737488355328)
    (h0 : 0 ≤ a) (ha : a < xs.length) (hB : B ≤ w.heap.size) (he : e' = if e < 0 then a + 2 else e) :
    Calls Tryz.prog 23 #[.pointer (some ⟨q, 0, none⟩), .slice A xs.length c] w (LeapPost w B q (leapTo xs a) e' ls (leapE xs a b)) := by
  have H := Kp.mk (u16_calls A c xs a w h hx8 hc hcm hE hl (by omega) (by omega))
  have hur := u16_range xs a hx8
  have HW := Kp.mk hw
  have hcell := blk_cell hw.blk 0
  obtain ⟨r, hre⟩ : ∃ r, leapE xs a b = r := ⟨_, rfl⟩
  rw [hre]
  have HRE := Kp.mk hre
  have HEE := Kp.mk he
  clear hw h hE hx8 hre he
  by_cases hs : (xs.length : Int) - 2 < a
  · have hp : partE xs.length a 2 = .fault a 3 := partE_short h0 (by omega) hs
    rw [hp] at H
    obtain rfl : r = .fault a 3 := by rw [← HRE.out]; unfold leapE; rw [if_pos hs]
    clear hp
    go_enter Tryz.func23, Tryz.ntmps23
    go_wp2_with (fail)
    refine H.out.mono ?_
    rintro e1 w1 ⟨v1, v2, rfl, hm1, hm2, hb⟩
    obtain rfl : v1 = .int .i64 (numV xs a 2) := List.singleton_inj.1 hm1
    have HM := Kp.mk hm2
    have HB := Kp.mk hb
    clear hm1 hm2 hb
    go_wp2_with (fail)
    refine (is_calls _ _ 3 _ (erK.K_of_M HM.out) (by decide) true rfl (by intro h; cases h)).mono ?_
    rintro e2 w2 ⟨rfl, rfl⟩
    go_wp2
    go_ret
    exact ⟨⟨_, rfl, erK.M_lower hB HM.out⟩, HB.out.mono hB, HB.out.size, fun h => by cases h⟩
  · have hp : partE xs.length a 2 = .none := partE_ok h0 (by omega) (by omega)
    have hnv : numV xs a 2 = be ((xs.drop a.toNat).take 2) := by
      unfold numV
      rw [askE_ok h0 (by omega) (by omega)]
      rfl
    have hto : leapTo xs a = be ((xs.drop a.toNat).take 2) % 16384 := rfl
    rw [← hnv] at hto
    rw [hp] at H
    have hRE2 : r = if b ≤ leapTo xs a then .fault a 14 else .none := by rw [← HRE.out]; unfold leapE; rw [if_neg hs]
    have HR2 := Kp.mk hRE2
    have hand := and_place (numV xs a 2) hur.1 (by omega)
    rw [← hto] at hand
    have htr : 0 ≤ leapTo xs a ∧ leapTo xs a < 16384 := by rw [hto]; omega
    obtain ⟨t, ht⟩ : ∃ t, leapTo xs a = t := ⟨_, rfl⟩
    rw [ht] at hand htr HR2 ⊢
    clear hp hnv hto hRE2 ht
    go_enter Tryz.func23, Tryz.ntmps23
    go_wp2_with (fail)
    refine H.out.mono ?_
    rintro e1 w1 ⟨v1, v2, rfl, hm1, hm2, hb⟩
    obtain rfl : v1 = .int .i64 (numV xs a 2) := List.singleton_inj.1 hm1
    obtain rfl := er_open_none (erK.K_of_M hm2)
    have HW1 := Kp.mk (HW.out.grow hb)
    have HB := Kp.mk hb
    have hc0 := blk_cell HW1.out.blk 0
    have hc1 := blk_cell HW1.out.blk 1
    have hc2 := blk_cell HW1.out.blk 2
    have hf0 := blk_frozen HW1.out.blk 0
    have hf1 := blk_frozen HW1.out.blk 1
    have hf2 := blk_frozen HW1.out.blk 2
    clear hm1 hm2 hb hcell
    go_wp2_with (fail)
    refine (is_nil 3 _).mono ?_
    rintro e2 w2 ⟨rfl, rfl⟩
    by_cases hb : b ≤ t
    · obtain rfl : r = .fault a 14 := by rw [HR2.out, if_pos hb]
      have bb : decide (b ≤ t) = true := by simpa using hb
      go_wp2_with (fail)
      refine (wrap_calls _ _ _).mono ?_
      rintro e2 w4 ⟨rfl, rfl⟩
      go_wp2
      go_ret
      exact ⟨⟨_, rfl, er_fault trivial (Nat.le_trans hB HB.out.size) (heap_new _ _)⟩, (HB.out.mono hB).alloc (Nat.le_trans hB HB.out.size) _, by have := HB.out.size; simp; omega, fun h => by cases h⟩
    · obtain rfl : r = .none := by rw [HR2.out, if_neg hb]
      have bb : decide (b ≤ t) = false := by simpa using hb
      have hle := HW.out.le
      have hbk := HW1.out.blk
      by_cases hneg : e < 0
      · have bn : decide (e < 0) = true := by simpa using hneg
        obtain rfl : e' = a + 2 := by rw [HEE.out, if_pos hneg]
        have hk1 := blk_put hbk 2 (.int .i64 (a + 2)) (cs' := #[.int .i64 a, .int .i64 b, .int .i64 (a + 2), v]) rfl
        have hk2 := blk_put hk1 0 (.int .i64 t) (cs' := #[.int .i64 t, .int .i64 b, .int .i64 (a + 2), v]) rfl
        have hk3 := blk_put hk2 1 (.int .i64 t) (cs' := #[.int .i64 t, .int .i64 t, .int .i64 (a + 2), v]) rfl
        have HK3 := Kp.mk hk3
        have HRW := Kp.mk (Kd.R_set (Kd.R_set (Kd.R_set HW1.out.row hbk (by decide) 2 (.int .i64 (a + 2))) hk1 (by decide) 0 (.int .i64 t)) hk2 (by decide) 1 (.int .i64 t))
        have g0 := blk_cell hk1 0
        have g1 := blk_frozen hk1 0
        have g2 := blk_cell hk2 1
        have g3 := blk_frozen hk2 1
        clear hk1 hk2 hk3 hbk hneg hb
        go_wp2
        go_ret
        exact ⟨⟨_, rfl, er_none _ _ _⟩, (((HB.out.mono hB).setCell hle _).setCell hle _).setCell hle _, by have := HB.out.size; simp; omega, fun _ => ⟨_, hle, HK3.out, HRW.out⟩⟩
      · have bn : decide (e < 0) = false := by simpa using hneg
        obtain rfl : e' = e := by rw [HEE.out, if_neg hneg]
        have hk2 := blk_put hbk 0 (.int .i64 t) (cs' := #[.int .i64 t, .int .i64 b, .int .i64 e', v]) rfl
        have hk3 := blk_put hk2 1 (.int .i64 t) (cs' := #[.int .i64 t, .int .i64 t, .int .i64 e', v]) rfl
        have HK3 := Kp.mk hk3
        have HRW := Kp.mk (Kd.R_set (Kd.R_set HW1.out.row hbk (by decide) 0 (.int .i64 t)) hk2 (by decide) 1 (.int .i64 t))
        have g2 := blk_cell hk2 1
        have g3 := blk_frozen hk2 1
        clear hk2 hk3 hbk hneg hb
        go_wp2
        go_ret
        exact ⟨⟨_, rfl, er_none _ _ _⟩, ((HB.out.mono hB).setCell hle _).setCell hle _, by have := HB.out.size; simp; omega, fun _ => ⟨_, hle, HK3.out, HRW.out⟩⟩
end Go.Proofs.YtimaliamidgflaaGreatDoor

namespace Go.Proofs.YtimaliamidgflaaGreatDoor
open Go.RowKit Go.Proofs.YtimaliamidgflaaGreatDoorW.PrintWords
set_option maxRecDepth 100000
set_option maxHeartbeats 1000000

/-- Labels, with dots between. -/
def nameOf (ls : List L) : L := Lib.join ls [46]
/-- Read, from a place on: the name, where it ends, why there is none. -/
def readF : Nat → List Int → Int → Int → Int → List L → L × Int × Er
  | 0, _, _, _, _, _ => ([], 0, .none)
  | k + 1, xs, a, b, e, ls =>
    if (xs.length : Int) ≤ a then ([], 0, .fault a 3)
    else if xs.getD a.toNat 0 = 0 then (nameOf ls, if e < 0 then a + 1 else e, .none)
    else if xs.getD a.toNat 0 ≤ 63 then
      if readE xs a (xs.getD a.toNat 0) ls = .none then readF k xs (a + 1 + xs.getD a.toNat 0) b e (ls ++ [lab xs a (xs.getD a.toNat 0)]) else ([], 0, readE xs a (xs.getD a.toNat 0) ls)
    else if 192 ≤ xs.getD a.toNat 0 then
      if leapE xs a b = .none then readF k xs (leapTo xs a) (leapTo xs a) (if e < 0 then a + 2 else e) ls else ([], 0, leapE xs a b)
    else ([], 0, .fault a 12)
/-- Rounds enough. -/
def readK (b : Int) (ls : List L) : Nat := b.toNat * 300 + (300 - sizeOf_ ls)
def readN (xs : List Int) (a : Int) : L × Int × Er := if a < 0 then ([], 0, .code 1) else readF (a.toNat * 300 + 301) xs a a (-1) []

theorem readE_cases (xs : List Int) (a n : Int) (ls : List L) : readE xs a n ls = .none ∨ ∃ c, readE xs a n ls = .fault a c := by
  unfold readE
  split
  · exact .inr ⟨_, rfl⟩
  · split
    · exact .inr ⟨_, rfl⟩
    · split
      · exact .inr ⟨_, rfl⟩
      · exact .inl rfl
theorem readE_size (xs : List Int) (a n : Int) (ls : List L) (h : readE xs a n ls = .none) : sizeOf_ (ls ++ [lab xs a n]) ≤ 255 := by
  unfold readE at h
  split at h
  · cases h
  · split at h
    · cases h
    · split at h
      · cases h
      · omega
theorem leapE_cases (xs : List Int) (a b : Int) : leapE xs a b = .none ∨ ∃ c, leapE xs a b = .fault a c := by
  unfold leapE
  split
  · exact .inr ⟨_, rfl⟩
  · split
    · exact .inr ⟨_, rfl⟩
    · exact .inl rfl
theorem leapE_below (xs : List Int) (a b : Int) (h : leapE xs a b = .none) : leapTo xs a < b := by
  unfold leapE at h
  split at h
  · cases h
  · split at h
    · cases h
    · omega
theorem leapTo_range (xs : List Int) (a : Int) : 0 ≤ leapTo xs a ∧ leapTo xs a < 16384 := by
  unfold leapTo
  omega
theorem join_len (ls : List L) : (nameOf ls).length ≤ sizeOf_ ls := by
  unfold nameOf
  cases ls with
  | nil => simp [Lib.join_nil]
  | cons x r =>
    rw [Lib.join_cons]
    have h : ∀ r : List L, (Lib.joinTail [46] r).length = (r.map fun s => 1 + s.length).sum := by
      intro r
      induction r with
      | nil => rfl
      | cons y r ih => simp [Lib.joinTail] at ih ⊢; omega
    simp [sizeOf_, h]
    omega
/-- strings.Join of labels. -/
theorem joinD_calls (B : Nat) (v : Value) (ls : List L) (w : World) (h : Kd.string.R 9 w B (fun _ => True) v (ls.map mkB)) (hz : sizeOf_ ls ≤ 255) :
    Calls Tryz.prog 21 #[v, .string dotB] w fun e w' => e = .returned (.string (mkB (nameOf ls))) ∧ Below w.heap.size w w' := by
  obtain ⟨A, c, rfl⟩ := Kd.R_slice h
  obtain ⟨hC, hc⟩ := R_C h
  have hl := len_sz ls
  by_cases h0 : ls = []
  · subst h0
    exact (Tryz.strings_Join_none A c dotB w).mono fun e w' ⟨he, hw⟩ => ⟨he, hw ▸ Below.refl _ _⟩
  · have hp : 0 < (ls.map mkB).length := by
      rw [List.length_map]
      exact List.length_pos_iff.2 h0
    obtain ⟨g, rfl, hg, -⟩ := R_form h hp
    have hjl := join_len ls
    have hcells : ∀ (j : Nat) x, (ls.map mkB)[j]? = some x → w.cell? ⟨g, 0 + j, none⟩ = some (.string x) := by
      intro j x hx
      have hj := (List.getElem?_eq_some_iff.1 hx).1
      obtain ⟨ad, he, hcell⟩ := at_natS hC j hj
      injection he with he
      subst he
      rw [add_plain] at hcell
      rw [Nat.zero_add, hcell, List.getD_eq_getElem?_getD, hx]
      rfl
    have hgl : g < w.heap.size := World.block_lt_of_cell? w _ (hcells 0 _ (List.getElem?_eq_getElem hp))
    refine (Tryz.strings_Join g 0 c (ls.map mkB) dotB w hcells hgl (by rw [List.length_map]; omega) hc ?_).mono fun e w' ⟨he, hw⟩ => ⟨?_, hw⟩
    · rw [List.map_map]
      show (Lib.join (ls.map id) [46]).length ≤ _
      rw [List.map_id]
      show (nameOf ls).length ≤ _
      omega
    · rw [he, List.map_map]
      show Ending.returned (.string (mkB (Lib.join (ls.map id) [46]))) = _
      rw [List.map_id]
      rfl

theorem read_neg (A : Option Addr) (n c : Nat) (a : Int) (w : World) (ha : a < 0) :
    Calls Tryz.prog 6 #[.slice A n c, .int .i64 a] w (Gives3 Kd.string (Kd.int .i64) erK (mkB []) 0 (.code 1) w) := by
  have b0 : decide (a < 0) = true := by simpa using ha
  go_enter Tryz.func6, Tryz.ntmps6
  go_wp2
  go_ret3
  exact ⟨_, _, _, rfl, rfl, rfl, er_code _ _ _ _, Below.refl _ _⟩

theorem read_calls (A : Option Addr) (c : Nat) (xs : List Int) (a : Int) (w : World) (nm : L) (en : Int) (er : Er) (h : (Kd.int .u8).C w A xs.length xs) (hx8 : Byts xs) (hc : xs.length ≤ c) (hcm : c ≤ 9223372036854775807) (hE : Env w) (hl : xs.length ≤ 140737488355328)
    (h0 : 0 ≤ a) (ha : a ≤ 9223372036854775807) (hr : readF (a.toNat * 300 + 301) xs a a (-1) [] = (nm, en, er)) :
    Calls Tryz.prog 6 #[.slice A xs.length c, .int .i64 a] w (Gives3 Kd.string (Kd.int .i64) erK (mkB nm) en er w) := by
  have b0 : decide (a < 0) = false := by simpa using h0
  have HC := Kp.mk h
  have HX := Kp.mk hx8
  have HE := Kp.mk hE
  have HR := Kp.mk hr
  obtain ⟨K, hK⟩ : ∃ K, a.toNat * 300 + 301 = K := ⟨_, rfl⟩
  rw [hK] at HR
  have HK := Kp.mk hK
  clear h hx8 hE hr hK
  go_enter Tryz.func6, Tryz.ntmps6
  go_wp2_with (fail)
  go_loopg [8] K (fun kq v8 wr => ∃ (a1 b1 e1 : Int) (v1 : Value) (ls : List L), Kp (Walk wr w.heap.size w.heap.size a1 b1 e1 v1 ls) ∧ Kp (Below w.heap.size w wr) ∧ Kp (readF kq xs a1 b1 e1 ls = (nm, en, er)) ∧ Kp (readK b1 ls < kq) ∧ Kp (0 ≤ a1 ∧ a1 ≤ 9223372036854775807 ∧ sizeOf_ ls ≤ 255 ∧ 0 ≤ b1))
  case atStart =>
    refine ⟨a, a, -1, .slice none 0 0, [], ⟨⟨Nat.le_refl _, ?_, Kd.R_nil _ _ _ _ _⟩⟩, ⟨(Below.refl _ _).alloc (Nat.le_refl _) _⟩, HR, ⟨?_⟩, ⟨h0, ha, by decide, h0⟩⟩
    · exact heap_new _ _
    · rw [← HK.out]
      simp [readK, sizeOf_]
  case round =>
    obtain ⟨a1, b1, e1, v1, ls, HW, HB, HRk, HM, HN⟩ := hrel
    cases gk with
    | zero => exact absurd HM.out (Nat.not_lt_zero _)
    | succ k1 =>
      have H := HRk.out
      rw [readF] at H
      clear HRk
      have hc0 := blk_cell HW.out.blk 0
      obtain ⟨hn0, hn1, hn2, hn3⟩ := HN.out
      by_cases h1 : (xs.length : Int) ≤ a1
      · rw [if_pos h1] at H
        obtain ⟨rfl, rfl, rfl⟩ : ([] : L) = nm ∧ (0 : Int) = en ∧ Er.fault a1 3 = er := by simpa using H
        have bq1 : decide ((xs.length : Int) ≤ a1) = true := by simpa using h1
        clear H
        go_wp2_with (fail)
        refine (wrap_calls _ _ _).mono ?_
        rintro e2 w2 ⟨rfl, rfl⟩
        go_wp2
        go_ret3
        exact ⟨_, _, _, rfl, rfl, rfl, er_fault trivial HB.out.size (heap_new _ _), HB.out.alloc HB.out.size _⟩
      · rw [if_neg h1] at H
        have bq1 : decide ((xs.length : Int) ≤ a1) = false := by simpa using h1
        obtain ⟨ad, rfl, hcell⟩ := at_nat (Kd.C_below HC.out HB.out) a1.toNat (by omega)
        have hxc := HX.out _ (getD_mem xs 0 a1.toNat (by omega))
        obtain ⟨x, hx⟩ : ∃ x, xs.getD a1.toNat 0 = x := ⟨_, rfl⟩
        rw [hx] at H hcell hxc
        have H' := Kp.mk H
        clear H hx
        by_cases h2 : x = 0
        · have H := H'.out
          rw [if_pos h2] at H
          subst h2
          by_cases hneg : e1 < 0
          · rw [if_pos hneg] at H
            obtain ⟨rfl, rfl, rfl⟩ : nameOf ls = nm ∧ a1 + 1 = en ∧ Er.none = er := by simpa using H
            have bn : decide (e1 < 0) = true := by simpa using hneg
            have hc2 := blk_cell HW.out.blk 2
            have hf2 := blk_frozen HW.out.blk 2
            have hk := blk_put HW.out.blk 2 (.int .i64 (a1 + 1)) (cs' := #[.int .i64 a1, .int .i64 b1, .int .i64 (a1 + 1), v1]) rfl
            have HRW := Kp.mk (Kd.R_set HW.out.row HW.out.blk (by decide) 2 (.int .i64 (a1 + 1)))
            have HKK := Kp.mk hk
            have g2 := blk_cell hk 2
            have g3 := blk_cell hk 3
            clear H H' hneg hk
            go_wp2_with (fail)
            go_region_with ((go_at_call 21; refine (joinD_calls w.heap.size _ ls _ (Kd.R_below HRW.out (Below.refl _ _).drew) hn2).mono ?_; rintro e2 w2 ⟨rfl, hb2⟩; have hd2 := blk_cell ((hb2.block _ (heap_lt HKK.out)).trans HKK.out) 2; have HB2 := Kp.mk hb2; clear hb2))
            all_goals
              go_wp2
              go_ret3
              exact ⟨_, _, _, rfl, rfl, rfl, er_none _ _ _, (HB.out.setCell (Nat.le_refl _) _).drew.trans (HB2.out.mono (by have := HB.out.size; simpa using this))⟩
          · rw [if_neg hneg] at H
            obtain ⟨rfl, rfl, rfl⟩ : nameOf ls = nm ∧ e1 = en ∧ Er.none = er := by simpa using H
            have bn : decide (e1 < 0) = false := by simpa using hneg
            have hc2 := blk_cell HW.out.blk 2
            have hc3 := blk_cell HW.out.blk 3
            clear H H' hneg
            go_wp2_with (fail)
            go_region_with ((go_at_call 21; refine (joinD_calls w.heap.size _ ls _ (Kd.R_below HW.out.row (Below.refl _ _).drew) hn2).mono ?_; rintro e2 w2 ⟨rfl, hb2⟩; have hd2 := blk_cell ((hb2.block _ (heap_lt HW.out.blk)).trans HW.out.blk) 2; have HB2 := Kp.mk hb2; clear hb2))
            all_goals
              go_wp2
              go_ret3
              exact ⟨_, _, _, rfl, rfl, rfl, er_none _ _ _, HB.out.drew.trans (HB2.out.mono (by have := HB.out.size; simpa using this))⟩
        · have be2 : (x == 0) = false := by simpa using h2
          have H := H'.out
          rw [if_neg h2] at H
          clear H'
          by_cases h3 : x ≤ 63
          · rw [if_pos h3] at H
            have b3 : decide (x ≤ 63) = true := by simpa using h3
            by_cases hs : (xs.length : Int) - x < a1 + 1
            · have hre : readE xs a1 x ls = .fault a1 3 := by unfold readE; rw [if_pos hs]
              rw [hre, if_neg (by intro h; cases h)] at H
              obtain ⟨rfl, rfl, rfl⟩ : ([] : L) = nm ∧ (0 : Int) = en ∧ Er.fault a1 3 = er := by simpa using H
              clear H hre
              go_wp2_with (fail)
              refine (read_short _ _ _ c xs a1 b1 e1 x v1 ls _ HW.out (Kd.C_below HC.out HB.out) hc hcm (HE.out.below HB.out) hl hn0 (by omega) (by omega) h3 HB.out.size hs).mono ?_
              rintro e2 w2 ⟨u, rfl, hm, hb⟩
              have HM2 := Kp.mk hm
              obtain ⟨p, rfl, -⟩ := er_open_fault (erK.K_of_M hm)
              have HB2 := Kp.mk hb
              clear hm hb
              go_wp2
              go_ret3
              exact ⟨_, _, _, rfl, rfl, rfl, HM2.out, below_step HB.out HB2.out⟩
            · go_wp2_with (fail)
              refine (read_there _ _ _ c xs a1 b1 e1 x v1 ls _ HW.out (Kd.C_below HC.out HB.out) HX.out hc hcm (HE.out.below HB.out) hl hn0 (by omega) (by omega) h3 HB.out.size (by omega) hn2).mono ?_
              rintro e2 w2 ⟨⟨u, rfl, hm⟩, hb, hsz, hw⟩
              have HM2 := Kp.mk hm
              have HB2 := Kp.mk (HB.out.trans hb)
              clear hm hb
              rcases readE_cases xs a1 x ls with hr | ⟨c1, hr⟩
              · rw [hr, if_pos rfl] at H
                have HR1 := Kp.mk H
                have HW1 := Kp.mk (hw hr)
                have HSZ := Kp.mk (readE_size xs a1 x ls hr)
                rw [hr] at HM2
                obtain rfl := er_open_none (erK.K_of_M HM2.out)
                clear H hw hr hsz HM2 hcell hc0
                go_wp2
                go_roundg k1
                case measure => omega
                case rel =>
                  obtain ⟨v', hw'⟩ := HW1.out
                  refine ⟨_, _, _, v', _, ⟨hw'⟩, HB2, HR1, ⟨?_⟩, ⟨by omega, by omega, HSZ.out, hn3⟩⟩
                  have h7 := HM.out
                  have h8 := HSZ.out
                  rw [sz_snoc] at h8
                  unfold readK at h7 ⊢
                  rw [sz_snoc]
                  omega
              · rw [hr, if_neg (by intro h; cases h)] at H
                obtain ⟨rfl, rfl, rfl⟩ : ([] : L) = nm ∧ (0 : Int) = en ∧ Er.fault a1 c1 = er := by simpa using H
                rw [hr] at HM2
                obtain ⟨p, rfl, -⟩ := er_open_fault (erK.K_of_M HM2.out)
                clear H hw hr hsz
                go_wp2
                go_ret3
                exact ⟨_, _, _, rfl, rfl, rfl, HM2.out, HB2.out⟩
          · rw [if_neg h3] at H
            have b3 : decide (x ≤ 63) = false := by simpa using h3
            by_cases h4 : 192 ≤ x
            · rw [if_pos h4] at H
              have b4 : decide (192 ≤ x) = true := by simpa using h4
              have HH := Kp.mk H
              clear H
              obtain ⟨e', he⟩ : ∃ e', (if e1 < 0 then a1 + 2 else e1) = e' := ⟨_, rfl⟩
              rw [he] at HH
              have HEE := Kp.mk he.symm
              clear he
              go_wp2_with (fail)
              refine (leap_calls _ _ _ c xs a1 b1 e1 e' v1 ls _ HW.out (Kd.C_below HC.out HB.out) HX.out hc hcm (HE.out.below HB.out) hl hn0 (by omega) HB.out.size HEE.out).mono ?_
              rintro e2 w2 ⟨⟨u, rfl, hm⟩, hb, hsz, hw⟩
              have HM2 := Kp.mk hm
              have HB2 := Kp.mk (HB.out.trans hb)
              have H := HH.out
              clear hm hb HH HEE
              rcases leapE_cases xs a1 b1 with hr | ⟨c1, hr⟩
              · rw [hr, if_pos rfl] at H
                have HR1 := Kp.mk H
                have HW1 := Kp.mk (hw hr)
                have HSZ := Kp.mk (leapE_below xs a1 b1 hr)
                have HTR := Kp.mk (leapTo_range xs a1)
                rw [hr] at HM2
                obtain rfl := er_open_none (erK.K_of_M HM2.out)
                clear H hw hr hsz HM2 hcell hc0
                go_wp2
                go_roundg k1
                case measure => omega
                case rel =>
                  obtain ⟨v', hw'⟩ := HW1.out
                  have h9 := HTR.out
                  refine ⟨_, _, _, v', _, ⟨hw'⟩, HB2, HR1, ⟨?_⟩, ⟨by omega, by omega, hn2, by omega⟩⟩
                  have h7 := HM.out
                  have h8 := HSZ.out
                  unfold readK at h7 ⊢
                  omega
              · rw [hr, if_neg (by intro h; cases h)] at H
                obtain ⟨rfl, rfl, rfl⟩ : ([] : L) = nm ∧ (0 : Int) = en ∧ Er.fault a1 c1 = er := by simpa using H
                rw [hr] at HM2
                obtain ⟨p, rfl, -⟩ := er_open_fault (erK.K_of_M HM2.out)
                clear H hw hr hsz
                go_wp2
                go_ret3
                exact ⟨_, _, _, rfl, rfl, rfl, HM2.out, HB2.out⟩
            · rw [if_neg h4] at H
              have b4 : decide (192 ≤ x) = false := by simpa using h4
              obtain ⟨rfl, rfl, rfl⟩ : ([] : L) = nm ∧ (0 : Int) = en ∧ Er.fault a1 12 = er := by simpa using H
              clear H
              go_wp2_with (fail)
              refine (wrap_calls _ _ _).mono ?_
              rintro e2 w2 ⟨rfl, rfl⟩
              go_wp2
              go_ret3
              exact ⟨_, _, _, rfl, rfl, rfl, er_fault trivial HB.out.size (heap_new _ _), HB.out.alloc HB.out.size _⟩
end Go.Proofs.YtimaliamidgflaaGreatDoor
