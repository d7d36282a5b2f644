/-
  Several texts of this seat in one: RefA, RefB, RefC, RefD.
-/
import Derived.Test.YtlkneoednkhleaaGreatDoorYRefP
import Derived.Test.YtlkneoednkhleaaGreatDoorYGt
import Derived.Test.YtlkneoednkhleaaGreatDoorYSame
import Derived.Test.YtlkneoednkhleaaGreatDoorYApp
import Derived.Deep.RegionHeld3
namespace Go.Proofs.YtlkneoednkhleaaGreatDoor
open Go.RowKit Go.Proofs.YtlkneoednkhleaaGreatDoorW.PrintWords Go.Proofs.YtlkneoednkhleaaGreatDoor.P
set_option linter.unusedVariables false
set_option linter.unusedSimpArgs false
set_option maxRecDepth 100000
set_option maxHeartbeats 1000000

theorem w64 (x : Int) (h1 : -9223372036854775808 ≤ x) (h2 : x ≤ 9223372036854775807) : wrap64 x = x := by unfold wrap64; omega
theorem rd_nat (xs : List Int) (i : Nat) : rd xs (i : Int) = xs.getD i 0 := by simp [rd]
theorem ref_lower0 (k : Nat) (xs out : List Int) (i : Nat) (hi : i ≤ xs.length) (hk : xs.length - i < k) (hxl : xs.length ≤ 140737488355328) (ho : out.length + (xs.length - i) ≤ 140737488355328) (hx : Byts xs) :
    stockaderef12_lower.l0 k xs out (i : Int) = some (strOfNums (out ++ (xs.drop i).map lowB)) := by
  induction k generalizing i out with
  | zero => omega
  | succ k ih =>
    rw [stockaderef12_lower.l0]
    by_cases h : i < xs.length
    · have hd : xs.drop i = xs.getD i 0 :: xs.drop (i + 1) := by rw [List.drop_eq_getElem_cons h]; simp [h]
      have hc := hx _ (getD_mem xs 0 i h)
      have hw : wrap64 ((i : Int) + 1) = ((i + 1 : Nat) : Int) := by rw [w64 _ (by omega) (by omega)]; simp
      rw [if_pos (by omega), if_pos (by omega), rd_nat, if_pos (show out.length < 140737488355328 by omega), if_pos (show out.length < 140737488355328 by omega), hw, hd, List.map_cons]
      generalize xs.getD i 0 = c at *
      have step : ∀ d, stockaderef12_lower.l0 k xs (out ++ [d]) ((i + 1 : Nat) : Int) = some (strOfNums (out ++ d :: (xs.drop (i + 1)).map lowB)) := by
        intro d
        rw [ih (out ++ [d]) (i + 1) (by omega) (by omega) (by simp; omega)]
        simp
      unfold lowB at step ⊢
      by_cases h1 : c ≥ 65
      · rw [if_pos h1]
        by_cases h2 : c ≤ 90
        · rw [if_pos h2, if_pos (show 65 ≤ c ∧ c ≤ 90 from ⟨h1, h2⟩), show (c + 32) % 256 = c + 32 by omega]
          exact step _
        · rw [if_neg h2, if_neg (show ¬ (65 ≤ c ∧ c ≤ 90) by omega)]
          exact step _
      · rw [if_neg h1, if_neg (show ¬ (65 ≤ c ∧ c ≤ 90) by omega)]
        exact step _
    · rw [if_neg (by omega), List.drop_eq_nil_of_le (by omega)]; simp
theorem ref_lower (k : Nat) (xs : List Int) (hk : xs.length < k) (ho : xs.length ≤ 140737488355328) (hx : Byts xs) : stockaderef12_lower.f k xs = some (strOfNums (xs.map lowB)) := by
  have := ref_lower0 k xs [] 0 (by omega) (by omega) ho (by simpa using ho) hx
  simpa [stockaderef12_lower.f] using this
theorem bt_nat (s : ByteArray) (i : Nat) : bt s (i : Int) = (bytesOf s).getD i 0 := by
  rw [← rd_bytesOf, rd_nat]
theorem ref_label0 (k : Nat) (s : ByteArray) (i : Nat) (hi : i ≤ s.size) (hk : s.size - i < k) (hs : s.size ≤ 140737488355328) :
    stockaderef12_label.l0 k s (i : Int) = some (!(((bytesOf s).drop i).any badB) && (decide (1 ≤ s.size) && decide (s.size ≤ 63))) := by
  have hl : (bytesOf s).length = s.size := bytesOf_length s
  induction k generalizing i with
  | zero => omega
  | succ k ih =>
    rw [stockaderef12_label.l0]
    by_cases h : i < s.size
    · have hd : (bytesOf s).drop i = (bytesOf s).getD i 0 :: (bytesOf s).drop (i + 1) := by rw [List.drop_eq_getElem_cons (by omega)]; simp [hl, h]
      have hw : wrap64 ((i : Int) + 1) = ((i + 1 : Nat) : Int) := by rw [w64 _ (by omega) (by omega)]; simp
      rw [if_pos (by omega), if_pos (by omega), bt_nat, hw, ih (i + 1) (by omega) (by omega), hd, List.any_cons]
      generalize (bytesOf s).getD i 0 = c
      unfold badB
      by_cases h1 : c < 33
      · simp [h1]
      · by_cases h2 : c > 126
        · simp [h1, h2]
        · by_cases h3 : c = 46
          · simp [h3]
          · by_cases h4 : c ≥ 65
            · by_cases h5 : c ≤ 90
              · have : decide (c < 33) = false := by simpa using h1
                simp [h1, h2, h3, h4, h5]
              · have e1 : (c == 46) = false := by simpa using h3
                simp [h1, h2, h3, h4, h5, e1, show ¬ (126 < c) by omega]
            · have e1 : (c == 46) = false := by simpa using h3
              simp [h1, h2, h3, h4, e1, show ¬ (126 < c) by omega, show ¬ (65 ≤ c) by omega]
    · rw [if_neg (by omega), List.drop_eq_nil_of_le (by omega)]
      by_cases h1 : 1 ≤ s.size
      · rw [if_pos (by omega)]
        simp [h1]
        omega
      · rw [if_neg (by omega)]
        simp [h1]
theorem ref_label (k : Nat) (s : ByteArray) (hk : s.size < k) (hs : s.size ≤ 140737488355328) : stockaderef12_label.f k s = some (labelB s) := by
  have := ref_label0 k s 0 (by omega) (by omega) hs
  rw [stockaderef12_label.f, show (0 : Int) = ((0 : Nat) : Int) by rfl, this, List.drop_zero]
  unfold labelB
  rw [Bool.and_comm]
end Go.Proofs.YtlkneoednkhleaaGreatDoor

namespace Go.Proofs.YtlkneoednkhleaaGreatDoor
open Go.RowKit Go.Proofs.YtlkneoednkhleaaGreatDoorW.PrintWords Go.Proofs.YtlkneoednkhleaaGreatDoor.P
set_option linter.unusedVariables false
set_option linter.unusedSimpArgs false
set_option maxRecDepth 100000
set_option maxHeartbeats 1000000

theorem extract_mk (s : ByteArray) (a b : Nat) : s.extract a b = mkB ((s.data.toList.take b).drop a) := by
  apply ByteArray.ext
  apply Array.toList_inj.1
  simp [mkB, List.drop_take]
theorem getD_bytes (s : ByteArray) (i : Nat) (h : i < s.data.toList.length) : (bytesOf s).getD i 0 = nB s.data.toList[i] := by
  have h2 : i < s.data.size := by simpa using h
  simp only [bytesOf, nB, List.getD_eq_getElem?_getD, List.getElem?_map, List.getElem?_eq_getElem h]
  rfl
theorem ref_split0 (k : Nat) (s : ByteArray) (acc : List ByteArray) (f i : Nat) (hf : f ≤ i) (hi : i ≤ s.size) (hk : s.size - i < k) (hs : s.size ≤ 1000000000) (ha : acc.length ≤ i)
    (hn : ∀ c ∈ (s.data.toList.take i).drop f, c ≠ 46) : stockaderef01_Split.l0 k s 46 acc (f : Int) (i : Int) = some (acc ++ (splitD (s.data.toList.drop f)).map mkB) := by
  have hl : s.data.toList.length = s.size := by simp
  induction k generalizing i f acc with
  | zero => omega
  | succ k ih =>
    rw [stockaderef01_Split.l0]
    by_cases h : i < s.size
    · have hw : wrap64 ((i : Int) + 1) = ((i + 1 : Nat) : Int) := by rw [w64 _ (by omega) (by omega)]; simp
      have hli : i < s.data.toList.length := by omega
      rw [if_pos (by omega), if_pos (by omega), bt_nat, getD_bytes s i hli, hw]
      have htk : s.data.toList.take (i + 1) = s.data.toList.take i ++ [s.data.toList[i]] := (List.take_append_getElem hli).symm
      have hdr : s.data.toList.drop f = (s.data.toList.take i).drop f ++ s.data.toList.drop i := by
        have h2 := congrArg (List.drop f) (List.take_append_drop i s.data.toList)
        rw [List.drop_append_of_le_length (by rw [List.length_take]; omega)] at h2
        exact h2.symm
      have hdi : s.data.toList.drop i = s.data.toList[i] :: s.data.toList.drop (i + 1) := List.drop_eq_getElem_cons hli
      by_cases h46 : s.data.toList[i] = 46
      · rw [if_pos (by rw [h46]; rfl), if_pos (by omega), if_pos (by omega), if_pos (by omega), if_pos (by omega), Int.toNat_natCast, Int.toNat_natCast]
        rw [ih (acc ++ [s.extract f i]) (i + 1) (i + 1) (by omega) (by omega) (by omega) (by simp; omega) (by rw [List.drop_eq_nil_of_le (by rw [List.length_take]; omega)]; simp)]
        rw [hdr, hdi, h46, splitD_cat _ _ hn, extract_mk]
        simp
      · have hne : ¬ nB s.data.toList[i] = 46 := by
          intro e
          exact h46 (UInt8.toNat_inj.1 (Int.ofNat_inj.1 e))
        rw [if_neg hne]
        refine ih acc f (i + 1) (by omega) (by omega) (by omega) (by omega) ?_
        rw [htk, List.drop_append_of_le_length (by rw [List.length_take]; omega)]
        intro c hc
        rcases List.mem_append.1 hc with hc | hc
        · exact hn c hc
        · rw [List.mem_singleton.1 hc]; exact h46
    · have e : i = s.size := by omega
      subst e
      rw [List.take_of_length_le (by omega)] at hn
      rw [if_neg (by omega), if_pos (by omega), if_pos (by omega), if_pos (by omega), Int.toNat_natCast, splitD_nodot _ hn, extract_mk, List.take_of_length_le (by omega)]
      rfl
theorem ref_split (k : Nat) (s : ByteArray) (hk : s.size < k) (hs : s.size ≤ 1000000000) : stockaderef01_Split.f k s 46 = some ((splitD s.data.toList).map mkB) := by
  have := ref_split0 k s [] 0 0 (by omega) (by omega) (by omega) hs (by simp) (by simp)
  simpa [stockaderef01_Split.f] using this
theorem ref_labels (k : Nat) (s : ByteArray) (hk : s.size < k) (hs : s.size ≤ 1000000000) : stockaderef12_Labels.f k s = some ((labelsOf s.data.toList).map mkB) := by
  unfold stockaderef12_Labels.f labelsOf
  rw [ByteArray.toList_eq]
  by_cases h : s.data.toList = []
  · rw [if_pos h, if_pos h]; rfl
  · rw [if_neg h, if_neg h, ref_split k s hk hs]; rfl
theorem size_cons (x : L) (r : List L) : sizeOf_ (x :: r) = sizeOf_ r + 1 + x.length := by simp [sizeOf_]; omega
theorem ref_right1 (k : Nat) (xs : List ByteArray) (x : L) (n i S : Nat) (hi : i < xs.length) (hx : xs.getD i ByteArray.empty = mkB x) (hl : x.length ≤ 9000) (hn : n ≤ 200000000) (hk : 9100 < k) (hxl : xs.length ≤ 100000)
    (b : Bool) (ih : labelB (mkB x) = true → stockaderef12_Right.l0 k xs ((n + 1 + x.length : Nat) : Int) ((i + 1 : Nat) : Int) = some (b && decide (n + 1 + x.length + S ≤ 256))) :
    stockaderef12_Right.l0 (k + 1) xs (n : Int) (i : Int) = some ((labelB (mkB x) && b) && decide (n + (S + 1 + x.length) ≤ 256)) := by
  rw [stockaderef12_Right.l0]
  have hr : rdOf ByteArray.empty xs (i : Int) = mkB x := by unfold rdOf; rw [Int.toNat_natCast, hx]
  have hw : wrap64 ((i : Int) + 1) = ((i + 1 : Nat) : Int) := by rw [w64 _ (by omega) (by omega)]; simp
  have hw2 : wrap64 (wrap64 ((n : Int) + 1) + ((mkB x).size : Int)) = ((n + 1 + x.length : Nat) : Int) := by rw [w64 ((n : Int) + 1) (by omega) (by omega), mkB_size, w64 _ (by omega) (by omega)]; simp
  rw [if_pos (by omega), if_pos (by omega), hr, ref_label k _ (by rw [mkB_size]; omega) (by rw [mkB_size]; omega), Option.bind_some, hw, hw2]
  rw [show n + 1 + x.length + S = n + (S + 1 + x.length) by omega] at ih
  cases hb : labelB (mkB x) with
  | false => rfl
  | true => rw [if_pos rfl, ih hb]; simp
theorem ref_right0 (r : List L) (k : Nat) (xs : List ByteArray) (n i : Nat) (hi : i + r.length = xs.length) (hd : xs.drop i = r.map mkB) (hk : r.length + 9100 < k) (hxl : xs.length ≤ 100000) (hn : n + 10000 * r.length ≤ 200000000) (hx : ∀ x ∈ r, x.length ≤ 9000) :
    stockaderef12_Right.l0 k xs (n : Int) (i : Int) = some ((r.all fun x => labelB (mkB x)) && decide (n + sizeOf_ r ≤ 256)) := by
  induction r generalizing k i n with
  | nil =>
    obtain ⟨k, rfl⟩ : ∃ k', k = k' + 1 := ⟨k - 1, by omega⟩
    simp only [List.length_nil] at hi
    rw [stockaderef12_Right.l0, if_neg (by omega)]
    simp only [List.all_nil, Bool.true_and]
    congr 1
    rw [decide_eq_decide, show sizeOf_ ([] : List L) = 1 by rfl]
    omega
  | cons x r ih =>
    obtain ⟨k, rfl⟩ : ∃ k', k = k' + 1 := ⟨k - 1, by omega⟩
    simp only [List.length_cons] at hi hk hn
    have hl := hx x (by simp)
    have hgi : xs.getD i ByteArray.empty = mkB x := by
      have := congrArg (fun l => l.getD 0 ByteArray.empty) hd
      simpa [List.getD_eq_getElem?_getD] using this
    have hd2 : xs.drop (i + 1) = r.map mkB := by rw [← List.drop_drop, hd]; rfl
    rw [size_cons, List.all_cons]
    exact ref_right1 k xs x n i (sizeOf_ r) (by omega) hgi hl (by omega) (by omega) hxl _ (fun _ => ih k (n + 1 + x.length) (i + 1) (by omega) hd2 (by omega) (by omega) (fun y hy => hx y (by simp [hy])))
theorem labels_mem_le (s : L) : ∀ x ∈ labelsOf s, x.length ≤ s.length := by
  intro x hx
  have h1 : sizeOf_ (labelsOf s) ≤ s.length + 2 := by
    unfold labelsOf
    split
    · simp [sizeOf_]
    · rw [splitD_sz]; exact Nat.le_refl _
  have h2 : ∀ (ls : List L), x ∈ ls → x.length + 2 ≤ sizeOf_ ls := by
    intro ls
    induction ls with
    | nil => intro h; cases h
    | cons y ls ih =>
      intro h
      rcases List.mem_cons.1 h with rfl | h
      · simp [sizeOf_]; omega
      · have := ih h; simp [sizeOf_] at this ⊢; omega
  have := h2 _ hx
  omega
theorem labels_size_le (s : L) : sizeOf_ (labelsOf s) ≤ s.length + 2 := by
  unfold labelsOf
  split
  · simp [sizeOf_]
  · rw [splitD_sz]; exact Nat.le_refl _
theorem len_le_size (ls : List L) : ls.length + 1 ≤ sizeOf_ ls := by
  induction ls with
  | nil => simp [sizeOf_]
  | cons x ls ih => simp [sizeOf_] at ih ⊢; omega
theorem ref_right (k : Nat) (s : ByteArray) (hk : s.size + 9200 < k) (hs : s.size ≤ 8100) : stockaderef12_Right.f k s = some (rightL s.data.toList) := by
  have hl : s.data.toList.length = s.size := by simp
  have h1 := labels_size_le s.data.toList
  have h2 := len_le_size (labelsOf s.data.toList)
  have := ref_right0 (labelsOf s.data.toList) k ((labelsOf s.data.toList).map mkB) 1 0 (by rw [List.length_map]; omega) rfl (by omega) (by rw [List.length_map]; omega) (by omega) (fun x hx => by have := labels_mem_le _ x hx; omega)
  unfold stockaderef12_Right.f
  rw [ref_labels k s (by omega) (by omega), Option.bind_some]
  rw [show (1 : Int) = ((1 : Nat) : Int) by rfl, show (0 : Int) = ((0 : Nat) : Int) by rfl, this]
  unfold rightL
  rw [Bool.and_comm]
  congr 2
  · rw [decide_eq_decide]; omega
  · rw [List.not_any_eq_all_not]; simp
end Go.Proofs.YtlkneoednkhleaaGreatDoor

namespace Go.Proofs.YtlkneoednkhleaaGreatDoor
open Go.RowKit Go.Proofs.YtlkneoednkhleaaGreatDoorW.PrintWords Go.Proofs.YtlkneoednkhleaaGreatDoor.P
set_option linter.unusedVariables false
set_option linter.unusedSimpArgs false
set_option maxRecDepth 100000
set_option maxHeartbeats 1000000

theorem or64 (v c : Int) (h0 : 0 ≤ v) (h1 : v < 256) (h2 : 0 ≤ c) (h3 : c ≤ 255) : bits .or .i64 (v * 256) c = v * 256 + c := by
  exact bits_join .i64 16 (by decide) (fun n h0 h1 => IntWalk.i64_in n (by omega)) 8 (v * 256) c (by omega) (by omega) (by omega) (by omega) (by omega) (by omega)
theorem ref_num2 (k : Nat) (xs : List Int) (a : Nat) (hk : 3 ≤ k) (ha : a + 1 < xs.length) (hl : xs.length ≤ 140737488355328) (hx : Byts xs) :
    stockaderef01_Num.f k xs (a : Int) 2 = some (be ((xs.drop a).take 2)) := by
  obtain ⟨k, rfl⟩ : ∃ j, k = j + 1 + 1 + 1 := ⟨k - 3, by omega⟩
  have hd : xs.drop a = xs.getD a 0 :: xs.getD (a + 1) 0 :: xs.drop (a + 2) := by
    rw [List.drop_eq_getElem_cons (by omega), List.drop_eq_getElem_cons (by omega)]
    simp [show a < xs.length by omega, ha]
  have c0 := hx _ (getD_mem xs 0 a (by omega))
  have c1 := hx _ (getD_mem xs 0 (a + 1) ha)
  have w1 : wrap64 ((a : Int) + 0) = ((a : Nat) : Int) := by rw [w64 _ (by omega) (by omega)]; simp
  have w2 : wrap64 ((a : Int) + 1) = ((a + 1 : Nat) : Int) := by rw [w64 _ (by omega) (by omega)]; simp
  unfold stockaderef01_Num.f
  rw [stockaderef01_Num.l0, if_pos (by decide), w1, if_pos (by omega), if_pos (by omega), rd_nat, show wrap64 (0 + 1) = 1 by exact w64 _ (by decide) (by decide)]
  rw [stockaderef01_Num.l0, if_pos (by decide), w2, if_pos (by omega), if_pos (by omega), rd_nat, show wrap64 (1 + 1) = 2 by exact w64 _ (by decide) (by decide)]
  rw [stockaderef01_Num.l0, if_neg (by decide), hd]
  generalize xs.getD a 0 = x at *
  generalize xs.getD (a + 1) 0 = y at *
  have e1 : bits .or .i64 (wrap64 (0 * 256)) (wrap64 x) = x := by
    have := or64 0 x (by decide) (by decide) (by omega) (by omega)
    rw [w64 x (by omega) (by omega), show wrap64 (0 * 256) = 0 * 256 by exact w64 _ (by decide) (by decide), this]
    simp
  have e2 : bits .or .i64 (wrap64 (x * 256)) (wrap64 y) = x * 256 + y := by
    rw [w64 y (by omega) (by omega), w64 _ (by omega) (by omega)]
    exact or64 x y (by omega) (by omega) (by omega) (by omega)
  rw [e1, e2]
  simp [be]
theorem num2_lt (xs : List Int) (a : Nat) (hx : Byts xs) (ha : a + 1 < xs.length) : 0 ≤ be ((xs.drop a).take 2) ∧ be ((xs.drop a).take 2) < 65536 := by
  have hd : xs.drop a = xs.getD a 0 :: xs.getD (a + 1) 0 :: xs.drop (a + 2) := by
    rw [List.drop_eq_getElem_cons (by omega), List.drop_eq_getElem_cons (by omega)]
    simp [show a < xs.length by omega, ha]
  have c0 := hx _ (getD_mem xs 0 a (by omega))
  have c1 := hx _ (getD_mem xs 0 (a + 1) ha)
  rw [hd]
  show 0 ≤ be [_, _] ∧ be [_, _] < 65536
  simp only [be, List.foldl_cons, List.foldl_nil]
  omega
/-- An error, as the document tells it. -/
def failT : Er → Int × Int × Bool
  | .none => (0, 0, false)
  | .code c => (c, 0, false)
  | .fault a c => (c, a, true)
theorem name_snoc (ls : List L) (x : L) (h : ∀ y ∈ ls, y ≠ []) : nameOf (ls ++ [x]) = if nameOf ls = [] then x else nameOf ls ++ 46 :: x := by
  rw [nameOf_join, nameOf_join]
  cases ls with
  | nil => simp [joinL, tailJ]
  | cons y r =>
    have hy := h y (by simp)
    have hne : joinL (y :: r) ≠ [] := by
      unfold joinL
      intro e
      exact hy (List.append_eq_nil_iff.1 e).1
    rw [if_neg hne]
    simp [joinL, tailJ]
theorem tail_len (r : List L) : (tailJ r).length + 1 = sizeOf_ r := by
  induction r with
  | nil => rfl
  | cons x r ih => rw [size_cons, ← ih]; simp [tailJ]; omega
theorem name_len (ls : List L) : (nameOf ls).length ≤ sizeOf_ ls := by
  rw [nameOf_join]
  cases ls with
  | nil => simp [joinL]
  | cons x r => have := tail_len r; rw [size_cons, joinL, List.length_append]; omega
theorem l0_short (k : Nat) (xs : List Int) (a : Int) (s : ByteArray) (z e b : Int) (h : (xs.length : Int) ≤ a) : stockaderef12_Read.l0 (k + 1) xs a s z e b = some (mkB [], 0, 3, (a : Int), true) := by
  rw [stockaderef12_Read.l0, if_pos h]; rfl
theorem l0_end (k : Nat) (xs : List Int) (a : Nat) (s : ByteArray) (z e b : Int) (hl : xs.length ≤ 1000000) (ha : a < xs.length) (n : Int) (hn : xs.getD a 0 = n) (h : n = 0) : stockaderef12_Read.l0 (k + 1) xs (a : Int) s z e b = some (s, if e < 0 then (a : Int) + 1 else e, 0, 0, false) := by
  rw [stockaderef12_Read.l0, if_neg (by omega), if_pos (by omega), if_pos (by omega), rd_nat, hn, w64 n (by omega) (by omega), if_pos h, w64 ((a : Int) + 1) (by omega) (by omega)]
  split <;> rfl
theorem l0_else (k : Nat) (xs : List Int) (a : Nat) (s : ByteArray) (z e b : Int) (ha : a < xs.length) (n : Int) (hn : xs.getD a 0 = n) (h1 : 63 < n) (h2 : n < 192) : stockaderef12_Read.l0 (k + 1) xs (a : Int) s z e b = some (mkB [], 0, 12, (a : Int), true) := by
  rw [stockaderef12_Read.l0, if_neg (by omega), if_pos (by omega), if_pos (by omega), rd_nat, hn, w64 n (by omega) (by omega), if_neg (by omega), if_neg (by omega), if_neg (by omega)]; rfl
theorem l0_cut (k : Nat) (xs : List Int) (a : Nat) (s : ByteArray) (z e b : Int) (hl : xs.length ≤ 1000000) (ha : a < xs.length) (n : Int) (hn : xs.getD a 0 = n) (h1 : 0 < n) (h2 : n ≤ 63) (h3 : (xs.length : Int) - n < a + 1) : stockaderef12_Read.l0 (k + 1) xs (a : Int) s z e b = some (mkB [], 0, 3, (a : Int), true) := by
  rw [stockaderef12_Read.l0, if_neg (by omega), if_pos (by omega), if_pos (by omega), rd_nat, hn, w64 n (by omega) (by omega), if_neg (by omega), if_pos (by omega), w64 ((xs.length : Int) - a) (by omega) (by omega), w64 _ (by omega) (by omega), if_pos (by omega)]; rfl
theorem l0_label (k : Nat) (xs : List Int) (a : Nat) (s : ByteArray) (z e b : Int) (hl : xs.length ≤ 1000000) (ha : a < xs.length) (n : Int) (hn : xs.getD a 0 = n) (h0 : 0 ≤ n) (hk : 70 ≤ k) (hx : Byts xs) (h1 : 0 < n) (h2 : n ≤ 63) (h3 : (a : Int) + 1 ≤ xs.length - n) (hz : 0 ≤ z) (hz2 : z ≤ 255) (hs : s.size ≤ 10000) (r : Option (ByteArray × Int × Int × Int × Bool))
    (h4 : labelB (mkB (lab xs a n)) = true → z + 1 + n ≤ 255 → stockaderef12_Read.l0 k xs ((a : Int) + 1 + n) (if s.data.toList = [] then mkB (lab xs a n) else mkB (s.data.toList ++ 46 :: lab xs a n)) (z + 1 + n) e b = r) :
    stockaderef12_Read.l0 (k + 1) xs (a : Int) s z e b = if labelB (mkB (lab xs a n)) = false then some (mkB [], 0, 12, (a : Int), true) else if 255 < z + 1 + n then some (mkB [], 0, 13, (a : Int), true) else r := by
  obtain ⟨m, rfl⟩ := Int.eq_ofNat_of_zero_le h0
  have hcut : (xs.take (a + 1 + m)).drop (a + 1) = (xs.drop (a + 1)).take m := by rw [List.drop_take]; congr 1; omega
  have hsub : Byts ((xs.drop (a + 1)).take m) := fun x h => hx x (List.mem_of_mem_drop (List.mem_of_mem_take h))
  have hlen : ((xs.drop (a + 1)).take m).length ≤ 63 := by rw [List.length_take]; omega
  have hlab : lab xs a (m : Int) = lowL ((xs.drop (a + 1)).take m) := by
    unfold lab
    rw [show ((a : Int) + 1).toNat = a + 1 by omega, Int.toNat_natCast]
  have hll : (lab xs a (m : Int)).length ≤ 63 := by rw [hlab, low_len]; exact hlen
  rw [stockaderef12_Read.l0, if_neg (by omega), if_pos (by omega), if_pos (by omega), rd_nat, hn, w64 (m : Int) (by omega) (by omega), if_neg (by omega), if_pos (by omega), w64 ((xs.length : Int) - a) (by omega) (by omega), w64 ((xs.length : Int) - a - 1) (by omega) (by omega), if_neg (by omega)]
  rw [w64 ((a : Int) + 1) (by omega) (by omega), w64 ((a : Int) + 1 + m) (by omega) (by omega), if_pos (by omega), if_pos (by omega), if_pos (by omega)]
  rw [show ((a : Int) + 1 + m).toNat = a + 1 + m by omega, show ((a : Int) + 1).toNat = a + 1 by omega, hcut, ref_lower k _ (by omega) (by omega) hsub, Option.bind_some, low_str, ← hlab]
  rw [ref_label k _ (by rw [mkB_size]; omega) (by rw [mkB_size]; omega), Option.bind_some]
  cases hb : labelB (mkB (lab xs a (m : Int))) with
  | false => rfl
  | true =>
    rw [if_pos rfl, if_neg (show ¬ (true = false) by decide), w64 (z + 1) (by omega) (by omega), w64 (z + 1 + m) (by omega) (by omega)]
    by_cases hz3 : 255 < z + 1 + (m : Int)
    · rw [if_pos (by omega), if_pos hz3]; rfl
    · rw [if_neg (by omega), if_neg hz3, ← h4 hb (by omega)]
      have hms : (mkB (lab xs a (m : Int))).size ≤ 63 := hll
      rw [ByteArray.toList_eq]
      by_cases he : s.data.toList = []
      · rw [if_pos he, if_pos (by omega), if_pos he]
        have : s ++ mkB (lab xs a (m : Int)) = mkB (lab xs a (m : Int)) := by
          apply ByteArray.ext
          have h5 : s.data = #[] := by rw [← Array.toList_inj]; exact he
          simp [h5]
        rw [this]
      · have h6 : (s ++ (⟨#[46]⟩ : ByteArray)).size = s.size + 1 := by rw [ByteArray.size_append]; rfl
        rw [if_neg he, if_pos (by omega), if_pos (by rw [h6]; omega), if_neg he]
        have : s ++ (⟨#[46]⟩ : ByteArray) ++ mkB (lab xs a (m : Int)) = mkB (s.data.toList ++ 46 :: lab xs a (m : Int)) := by
          apply ByteArray.ext
          simp [mkB]
        rw [this]
theorem l0_leap (k : Nat) (xs : List Int) (a : Nat) (s : ByteArray) (z e b : Int) (hl : xs.length ≤ 1000000) (ha : a < xs.length) (n : Int) (hn : xs.getD a 0 = n) (h255 : n ≤ 255) (hk : 70 ≤ k) (hx : Byts xs) (h1 : 192 ≤ n) (r : Option (ByteArray × Int × Int × Int × Bool))
    (h4 : leapE xs a b = .none → stockaderef12_Read.l0 k xs (leapTo xs a) s z (if e < 0 then (a : Int) + 2 else e) (leapTo xs a) = r) :
    stockaderef12_Read.l0 (k + 1) xs (a : Int) s z e b = if (xs.length : Int) - 2 < a then some (mkB [], 0, 3, (a : Int), true) else if b ≤ leapTo xs a then some (mkB [], 0, 14, (a : Int), true) else r := by
  rw [stockaderef12_Read.l0, if_neg (by omega), if_pos (by omega), if_pos (by omega), rd_nat, hn, w64 n (by omega) (by omega), if_neg (by omega), if_neg (by omega), if_pos (by omega), w64 ((a : Int) + 1) (by omega) (by omega)]
  by_cases h2 : (xs.length : Int) - 2 < a
  · rw [if_pos (by omega), if_pos h2]; rfl
  · have hle : a + 1 < xs.length := by omega
    have hr := num2_lt xs a hx hle
    have hto : bits .and .i64 (be ((xs.drop a).take 2)) 16383 = leapTo xs a := by
      rw [and_place _ hr.1 hr.2]; rfl
    rw [if_neg (by omega), if_neg h2, ref_num2 k xs a (by omega) hle (by omega) hx, Option.bind_some, hto]
    by_cases h3 : b ≤ leapTo xs a
    · rw [if_pos h3, if_pos h3]; rfl
    · rw [if_neg h3, if_neg h3, ← h4 (by unfold leapE; rw [if_neg h2, if_neg h3]), w64 ((a : Int) + 2) (by omega) (by omega)]
      split <;> rfl
theorem ref_read0 (kq K : Nat) (hK : 70 ≤ K) (xs : List Int) (hx : Byts xs) (hl : xs.length ≤ 1000000) (a b : Nat) (e : Int) (ls : List L) (nm : L) (en : Int) (er : Er) (hr : readF kq xs (a : Int) (b : Int) e ls = (nm, en, er))
    (hm : readK (b : Int) ls < kq) (hs : sizeOf_ ls ≤ 255) (hls : ∀ y ∈ ls, y ≠ []) :
    stockaderef12_Read.l0 (kq + K) xs (a : Int) (mkB (nameOf ls)) ((sizeOf_ ls : Nat) : Int) e (b : Int) = some (mkB nm, en, failT er) := by
  induction kq generalizing a b e ls with
  | zero => omega
  | succ kq ih =>
    rw [show kq + 1 + K = (kq + K) + 1 by omega]
    rw [readF] at hr
    by_cases h1 : (xs.length : Int) ≤ a
    · rw [if_pos h1] at hr
      cases hr
      exact l0_short _ _ _ _ _ _ _ h1
    · rw [if_neg h1, Int.toNat_natCast] at hr
      have ha : a < xs.length := by omega
      obtain ⟨n, hn⟩ : ∃ n, xs.getD a 0 = n := ⟨_, rfl⟩
      have hnb := hx _ (getD_mem xs 0 a ha)
      rw [hn] at hr hnb
      by_cases h2 : n = 0
      · rw [if_pos h2] at hr
        cases hr
        exact l0_end _ _ _ _ _ _ _ hl ha n hn h2
      · rw [if_neg h2] at hr
        by_cases h3 : n ≤ 63
        · rw [if_pos h3] at hr
          unfold readE at hr
          by_cases h4 : (xs.length : Int) - n < a + 1
          · rw [if_pos h4, if_neg (by simp)] at hr
            cases hr
            exact l0_cut _ _ _ _ _ _ _ hl ha n hn (by omega) h3 h4
          · rw [if_neg h4] at hr
            have hsn : sizeOf_ (ls ++ [lab xs a n]) = sizeOf_ ls + 1 + n.toNat := by
              have : (lab xs a n).length = n.toNat := by
                unfold lab
                rw [low_len, List.length_take, List.length_drop]; omega
              simp [sizeOf_, this]; omega
            rw [hsn] at hr
            have hnl : (mkB (nameOf ls)).size ≤ 10000 := by rw [mkB_size]; have := name_len ls; omega
            have hlb := l0_label (kq + K) xs a (mkB (nameOf ls)) (sizeOf_ ls : Nat) e b hl ha n hn (by omega) (by omega) hx (by omega) h3 (by omega) (by omega) (by omega) hnl (some (mkB nm, en, failT er))
            rw [hlb]
            · by_cases h5 : labelB (mkB (lab xs a n)) = false
              · rw [if_pos h5, if_neg (by simp)] at hr
                cases hr
                rw [if_pos h5]; rfl
              · rw [if_neg h5] at hr ⊢
                by_cases h6 : 255 < sizeOf_ ls + 1 + n.toNat
                · rw [if_pos h6, if_neg (by simp)] at hr
                  cases hr
                  rw [if_pos (by omega)]; rfl
                · rw [if_neg (by omega)]
            · intro h5 h6
              rw [if_neg (show ¬ labelB (mkB (lab xs a n)) = false by rw [h5]; simp), if_neg (show ¬ 255 < sizeOf_ ls + 1 + n.toNat by omega), if_pos rfl] at hr
              have hne : lab xs a n ≠ [] := by
                intro e
                rw [e] at h5
                exact absurd h5 (by decide)
              have hih := ih (a + 1 + n.toNat) b e (ls ++ [lab xs a n]) (by rw [← hr]; congr 1; omega) (by unfold readK at hm ⊢; rw [hsn]; omega) (by rw [hsn]; omega) (fun y hy => by
                rcases List.mem_append.1 hy with hy | hy
                · exact hls y hy
                · rw [List.mem_singleton.1 hy]; exact hne)
              rw [← hih, hsn]
              congr 1
              · omega
              · rw [name_snoc ls _ hls, mkB_toList]
                split <;> rfl
              · omega
        · rw [if_neg h3] at hr
          by_cases h4 : 192 ≤ n
          · rw [if_pos h4] at hr
            have hlb := l0_leap (kq + K) xs a (mkB (nameOf ls)) (sizeOf_ ls : Nat) e b hl ha n hn (by omega) (by omega) hx h4 (some (mkB nm, en, failT er))
            rw [hlb]
            · unfold leapE at hr
              by_cases h5 : (xs.length : Int) - 2 < a
              · rw [if_pos h5, if_neg (by simp)] at hr
                cases hr
                rw [if_pos h5]; rfl
              · rw [if_neg h5] at hr ⊢
                by_cases h6 : (b : Int) ≤ leapTo xs a
                · rw [if_pos h6, if_neg (by simp)] at hr
                  cases hr
                  rw [if_pos h6]; rfl
                · rw [if_neg h6]
            · intro h5
              rw [if_pos h5] at hr
              have ht0 : 0 ≤ leapTo xs a := by unfold leapTo; omega
              have htb : leapTo xs a < b := by
                unfold leapE at h5
                split at h5
                · cases h5
                · split at h5
                  · cases h5
                  · omega
              obtain ⟨t, ht⟩ := Int.eq_ofNat_of_zero_le ht0
              rw [ht] at hr htb ⊢
              exact ih t t _ ls hr (by unfold readK at hm ⊢; omega) hs hls
          · rw [if_neg h4] at hr
            cases hr
            exact l0_else _ _ _ _ _ _ _ ha n hn (by omega) (by omega)
/-- The document's reading is the program's. -/
theorem ref_read (xs : List Int) (hx : Byts xs) (hl : xs.length ≤ 1000000) (a : Nat) (nm : L) (en : Int) (er : Er) (hr : readF (a * 300 + 301) xs (a : Int) (a : Int) (-1) [] = (nm, en, er)) :
    stockaderef12_Read.f (a * 300 + 301 + 70) xs (a : Int) = some (mkB nm, en, failT er) := by
  have h := ref_read0 (a * 300 + 301) 70 (by omega) xs hx hl a a (-1) [] nm en er hr (by unfold readK; simp [sizeOf_]) (by decide) (by simp)
  unfold stockaderef12_Read.f
  rw [if_neg (by omega)]
  exact h
theorem ref_read_neg (xs : List Int) (a : Int) (k : Nat) (h : a < 0) : stockaderef12_Read.f k xs a = some (mkB [], 0, 1, 0, false) := by
  unfold stockaderef12_Read.f
  rw [if_pos h]; rfl
end Go.Proofs.YtlkneoednkhleaaGreatDoor

namespace Go.Proofs.YtlkneoednkhleaaGreatDoor
open Go.RowKit Go.Proofs.YtlkneoednkhleaaGreatDoorW.PrintWords Go.Proofs.YtlkneoednkhleaaGreatDoor.P
set_option linter.unusedVariables false
set_option linter.unusedSimpArgs false
set_option maxRecDepth 100000
set_option maxHeartbeats 1000000

/-- A row of bytes of the call's own, and an error as the document tells it. -/
def GivesT (xs : List Int) (x : Er) (w : World) (e : Ending) (w' : World) : Prop :=
  ∃ v, e = .returned (.tuple #[v, failV x]) ∧ (Kd.int .u8).R 5 w' w.heap.size (fun _ => True) v xs ∧ Below w.heap.size w w'
theorem rwrite_bad (s : ByteArray) (w : World) (hs : s.size ≤ 8100) (hr : rightL s.data.toList = false) : Calls Tryz.prog 37 #[.string s] w (GivesT [] (.code 13) w) := by
  have hR := ref_right 20000 s (by omega) hs
  rw [hr] at hR
  have H := Kp.mk (fun w => stockaderef12_Right.calls 20000 s _ w hR)
  clear hr hR
  go_enter Tryz.func37, Tryz.ntmps37
  go_wp2_with (fail)
  have HF := Kp.mk (heap_new w (.cells #[.int .i64 0, .int .i64 0, .bool false] 38))
  have HB0 := Kp.mk ((Below.refl w.heap.size w).alloc (Nat.le_refl _) (.cells #[.int .i64 0, .int .i64 0, .bool false] 38))
  refine (H.out _).mono ?_
  rintro e w1 ⟨rfl, hb⟩
  have HF1 := Kp.mk ((hb.block _ (heap_lt HF.out)).trans HF.out)
  have HB := Kp.mk (below_step HB0.out hb)
  clear hb HF HB0
  go_wp2_with (fail)
  refine (stockadehelp_Bare.calls 13 13 0 false _ rfl).mono ?_
  rintro e w2 ⟨rfl, hb⟩
  have HF2 := Kp.mk ((hb.block _ (heap_lt HF1.out)).trans HF1.out)
  have HB2 := Kp.mk (below_step HB.out hb)
  have x0 := blk_cell HF2.out 0
  have x1 := blk_cell HF2.out 1
  have x2 := blk_cell HF2.out 2
  have y0 := blk_frozen HF2.out 0
  have y1 := blk_frozen HF2.out 1
  have y2 := blk_frozen HF2.out 2
  clear hb HF1 HB
  go_wp2
  have z0 := blk_put HF2.out 0 (.int .i64 13) (cs' := #[.int .i64 13, .int .i64 0, .bool false]) rfl
  have z1 := blk_put z0 1 (.int .i64 0) (cs' := #[.int .i64 13, .int .i64 0, .bool false]) rfl
  have z2 := blk_put z1 2 (.bool false) (cs' := #[.int .i64 13, .int .i64 0, .bool false]) rfl
  refine bodyPost_ret (results_tc rfl _ _ w.heap.size 38 #[.int .i64 13, .int .i64 0, .bool false] (0, 0) _ rfl z2 Tryz.underlying38 rfl (by kernel_rfl)) rfl ?_
  exact ⟨_, rfl, Kd.R_nil _ _ _ _ _, ((HB2.out.setCell (p := ⟨w.heap.size, 0, none⟩) (Nat.le_refl _) _).setCell (p := ⟨w.heap.size, 1, none⟩) (Nat.le_refl _) _).setCell (p := ⟨w.heap.size, 2, none⟩) (Nat.le_refl _) _⟩
theorem rwrite_good (s : ByteArray) (w : World) (hs : s.size ≤ 8100) (hr : rightL s.data.toList = true) : Calls Tryz.prog 37 #[.string s] w (GivesT (wireOf (labelsOf s.data.toList) ++ [0]) .none w) := by
  have hR := ref_right 20000 s (by omega) hs
  rw [hr] at hR
  have H := Kp.mk (fun w => stockaderef12_Right.calls 20000 s _ w hR)
  clear hR
  have hz : sizeOf_ (labelsOf s.data.toList) ≤ 255 := by
    unfold rightL at hr
    simp at hr
    exact hr.1
  have hLC := fun w => stockaderef12_Labels.calls 20000 s _ w (ref_labels 20000 s (by omega) (by omega))
  obtain ⟨l, hl⟩ : ∃ l, labelsOf s.data.toList = l := ⟨_, rfl⟩
  rw [hl] at hz hLC ⊢
  have HLC := Kp.mk hLC
  have HZ := Kp.mk hz
  have HT := Kp.mk (fun k => wire_take l k)
  clear hr hLC hl hz
  go_enter Tryz.func37, Tryz.ntmps37
  go_wp2_with (fail)
  have HF := Kp.mk (heap_new w (.cells #[.int .i64 0, .int .i64 0, .bool false] 38))
  have HB0 := Kp.mk ((Below.refl w.heap.size w).alloc (Nat.le_refl _) (.cells #[.int .i64 0, .int .i64 0, .bool false] 38))
  refine (H.out _).mono ?_
  rintro e w1 ⟨rfl, hb⟩
  have HF1 := Kp.mk ((hb.block _ (heap_lt HF.out)).trans HF.out)
  have HB := Kp.mk (below_step HB0.out hb)
  clear hb HF HB0
  go_wp2_with (fail)
  refine (HLC.out _).mono ?_
  rintro e w2 ⟨v, rfl, hm, hb⟩
  have HB2 := Kp.mk (below_step HB.out hb)
  have HF2 := Kp.mk ((hb.block _ (heap_lt HF1.out)).trans HF1.out)
  obtain ⟨A, c, rfl⟩ := Kd.R_slice hm
  obtain ⟨hC, hc⟩ := R_C hm
  rw [List.length_map] at hC hc ⊢
  have HC := Kp.mk hC
  clear hb hm hC HB
  go_wp2_with (fail)
  have hln : l.length ≤ 9223372036854775807 := (C_len HC.out).2
  go_loopw [4, 6] (fun v i wr => ∃ k : Nat, k ≤ l.length ∧ i = .int .i64 k ∧ Kp (Below w2.heap.size w2 wr) ∧ Kp ((Kd.int .u8).R 5 wr w2.heap.size (fun _ => True) v (wireOf (l.take k)))) (fun _ i _ => l.length - (intOf i).toNat)
  case atStart => exact ⟨0, Nat.zero_le _, rfl, ⟨Below.refl _ _⟩, ⟨Kd.R_nil _ _ _ _ _⟩⟩
  case round =>
    obtain ⟨k, hk, rfl, HW, HR⟩ := hrel
    by_cases hlt : k < l.length
    · obtain ⟨ad, rfl, hcell⟩ := at_natS (Kd.C_below HC.out HW.out) k hlt
      have hgx : (l.map mkB).getD k ByteArray.empty = mkB (l.getD k []) := by simp [List.getD_eq_getElem?_getD, hlt]
      rw [hgx] at hcell
      have HTS := Kp.mk (take_snoc l [] k hlt)
      have HTW := Kp.mk (HT.out k)
      have HTW2 := Kp.mk (HT.out (k + 1))
      obtain ⟨x, hx⟩ : ∃ x, l.getD k [] = x := ⟨_, rfl⟩
      rw [hx] at hcell HTS
      have HCELL2 : Kp (w2.cell? (ad.add k) = some (.string (mkB x))) := ⟨by
        obtain ⟨ad2, he2, hc2⟩ := at_natS HC.out k hlt
        injection he2 with he2
        subst he2
        rw [hgx, hx] at hc2
        exact hc2⟩
      clear hgx hx
      have hxs : (mkB x).size ≤ 253 := by
        have h1 := HTW2.out
        rw [HTS.out, wire_snoc] at h1
        simp only [List.length_append, List.length_cons, bytesOf_length] at h1
        have := HZ.out
        omega
      have hsz := HW.out.size
      go_wp2_with (fail)
      have HLT := Kp.mk (lit_bytes wr w2.heap.size [(IntKind.u8.wrap ((mkB x).size : Int))] hsz (by simp))
      have hsz1 : w2.heap.size ≤ wr.heap.size + 1 := by omega
      have HBA := Kp.mk (HW.out.alloc hsz (.cells #[.int .u8 (IntKind.u8.wrap ((mkB x).size : Int))] 5))
      have HRA := Kp.mk (Kd.R_below HR.out ((Below.refl wr.heap.size wr).alloc (Nat.le_refl _) (.cells #[.int .u8 (IntKind.u8.wrap ((mkB x).size : Int))] 5)))
      go_region_held3 (fun w' => w'.cell? (ad.add k) = some (.string (mkB x))) (first | go_keep | exact pw_cell_below HW1.out HCELL2.out | exact pw_cell_below HW2.out HCELL2.out)
        (first
          | (refine step_bytes (w0 := w2) (base := w2.heap.size) (by rfl) (s := .tmp 19) (x := .tmp 26) (v := u4) (by rfl) (wireOf (l.take k)) [(IntKind.u8.wrap ((mkB x).size : Int))] (some ⟨wr.heap.size, 0, none⟩) 1 1 (by rfl) (by rfl) (Kd.R_below HRA.out (below_drew (Below.refl _ _))) (Kd.C_below (R_C HLT.out).1 (below_drew (Below.refl _ _))) (below_drew HBA.out) (by simpa using hsz1) (by have := HTW.out; have := HZ.out; omega) ?_; intro v1 wa HR1 HW1 hs1)
          | (refine step_str (w0 := w2) (base := w2.heap.size) (by rfl) (s := .tmp 27) (x := .tmp 31) (v := v1) (by rfl) (wireOf (l.take k) ++ [IntKind.u8.wrap ((mkB x).size : Int)]) (mkB x) (by rfl) (by rfl) HR1.out HW1.out hs1.out (by have := HTW.out; have := HZ.out; simp only [List.length_append, List.length_singleton]; omega) ?_; intro v2 wb HR2 HW2 hs2))
      have hwv : IntKind.u8.wrap ((mkB x).size : Int) = ((mkB x).size : Int) := IntWalk.u8_in _ (by omega)
      rw [hwv] at HR2
      clear hwv
      go_wp2
      refine ⟨⟨k + 1, by omega, by go_num, HW2, ⟨?_⟩⟩, by simp [intOf]; omega⟩
      rw [HTS.out, wire_snoc]
      simpa using HR2.out
    · obtain rfl : k = l.length := by omega
      have ht : l.take l.length = l := List.take_length
      rw [ht] at HR
      have HTW := Kp.mk (HT.out l.length)
      rw [ht] at HTW
      have hsz := HW.out.size
      clear ht hlt
      go_wp2_with (at_builtin; with_reducible refine gate_builtin (b := .append) (xs := #[.tmp 33, .tmp 34]) rfl ?_; refine app_byte (w0 := w2) (s := .tmp 33) (x := .tmp 34) (v := u4) rfl rfl _ _ rfl rfl HR.out HW.out hsz (by have := HTW.out; have := HZ.out; omega) ?_)
      intro v1 wa HR1 HW1 hs1
      have HFa := Kp.mk ((HW1.out.block _ (heap_lt HF2.out)).trans HF2.out)
      have x0 := blk_cell HFa.out 0
      have x1 := blk_cell HFa.out 1
      have x2 := blk_cell HFa.out 2
      have y0 := blk_frozen HFa.out 0
      have y1 := blk_frozen HFa.out 1
      have y2 := blk_frozen HFa.out 2
      go_wp2
      have z0 := blk_put HFa.out 0 (.int .i64 0) (cs' := #[.int .i64 0, .int .i64 0, .bool false]) rfl
      have z1 := blk_put z0 1 (.int .i64 0) (cs' := #[.int .i64 0, .int .i64 0, .bool false]) rfl
      have z2 := blk_put z1 2 (.bool false) (cs' := #[.int .i64 0, .int .i64 0, .bool false]) rfl
      refine bodyPost_ret (results_tc rfl _ _ w.heap.size 38 #[.int .i64 0, .int .i64 0, .bool false] (0, 0) _ rfl z2 Tryz.underlying38 rfl (by kernel_rfl)) rfl ?_
      have hfin := Kd.R_set (Kd.R_set (Kd.R_set (Kd.R_lower HR1.out HB2.out.size) HFa.out (by decide) 0 (.int .i64 0)) z0 (by decide) 1 (.int .i64 0)) z1 (by decide) 2 (.bool false)
      have hB := below_step HB2.out HW1.out
      exact ⟨_, rfl, hfin, ((hB.setCell (p := ⟨w.heap.size, 0, none⟩) (Nat.le_refl _) _).setCell (p := ⟨w.heap.size, 1, none⟩) (Nat.le_refl _) _).setCell (p := ⟨w.heap.size, 2, none⟩) (Nat.le_refl _) _⟩
end Go.Proofs.YtlkneoednkhleaaGreatDoor
