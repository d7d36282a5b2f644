/-
  The document's answers for names, as they are printed out of the program: labels, and what is under what: the plain law.
-/
import Derived.Test.YtimaliamidgflaaDoorRefQ
import Derived.Test.YtimaliamidgflaaDoorNlA
import Derived.Test.YtimaliamidgflaaDoorPlayA
namespace Go.Proofs.YtimaliamidgflaaDoor
open Go.RowKit Go.Proofs.YtimaliamidgflaaDoorW.PrintWords Go.Proofs.YtimaliamidgflaaDoor.P
set_option linter.unusedVariables false
set_option linter.unusedSimpArgs false
set_option maxRecDepth 100000
set_option maxHeartbeats 1000000

theorem w64 (x : Int) (h1 : -9223372036854775808 ≤ x) (h2 : x ≤ 9223372036854775807) : wrap64 x = x := by unfold wrap64; omega
theorem rd_nat (xs : List Int) (i : Nat) : rd xs (i : Int) = xs.getD i 0 := by simp [rd]
theorem bt_nat (s : ByteArray) (i : Nat) : bt s (i : Int) = (bytesOf s).getD i 0 := by
  rw [← rd_bytesOf, rd_nat]
theorem extract_mk (s : ByteArray) (a b : Nat) : s.extract a b = mkB ((s.data.toList.take b).drop a) := by
  apply ByteArray.ext
  apply Array.toList_inj.1
  simp [mkB, List.drop_take]
theorem getD_bytes (s : ByteArray) (i : Nat) (h : i < s.data.toList.length) : (bytesOf s).getD i 0 = nB s.data.toList[i] := by
  have h2 : i < s.data.size := by simpa using h
  simp only [bytesOf, nB, List.getD_eq_getElem?_getD, List.getElem?_map, List.getElem?_eq_getElem h]
  rfl
theorem ref_split0 (k : Nat) (s : ByteArray) (acc : List ByteArray) (f i : Nat) (hf : f ≤ i) (hi : i ≤ s.size) (hk : s.size - i < k) (hs : s.size ≤ 1000000000) (ha : acc.length ≤ i)
    (hn : ∀ c ∈ (s.data.toList.take i).drop f, c ≠ 46) : stockaderef01_Split.l0 k s 46 acc (f : Int) (i : Int) = some (acc ++ (splitD (s.data.toList.drop f)).map mkB) := by
  have hl : s.data.toList.length = s.size := by simp
  induction k generalizing i f acc with
  | zero => omega
  | succ k ih =>
    rw [stockaderef01_Split.l0]
    by_cases h : i < s.size
    · have hw : wrap64 ((i : Int) + 1) = ((i + 1 : Nat) : Int) := by rw [w64 _ (by omega) (by omega)]; simp
      have hli : i < s.data.toList.length := by omega
      rw [if_pos (by omega), if_pos (by omega), bt_nat, getD_bytes s i hli, hw]
      have htk : s.data.toList.take (i + 1) = s.data.toList.take i ++ [s.data.toList[i]] := (List.take_append_getElem hli).symm
      have hdr : s.data.toList.drop f = (s.data.toList.take i).drop f ++ s.data.toList.drop i := by
        have h2 := congrArg (List.drop f) (List.take_append_drop i s.data.toList)
        rw [List.drop_append_of_le_length (by rw [List.length_take]; omega)] at h2
        exact h2.symm
      have hdi : s.data.toList.drop i = s.data.toList[i] :: s.data.toList.drop (i + 1) := List.drop_eq_getElem_cons hli
      by_cases h46 : s.data.toList[i] = 46
      · rw [if_pos (by rw [h46]; rfl), if_pos (by omega), if_pos (by omega), if_pos (by omega), if_pos (by omega), Int.toNat_natCast, Int.toNat_natCast]
        rw [ih (acc ++ [s.extract f i]) (i + 1) (i + 1) (by omega) (by omega) (by omega) (by simp; omega) (by rw [List.drop_eq_nil_of_le (by rw [List.length_take]; omega)]; simp)]
        rw [hdr, hdi, h46, splitD_cat _ _ hn, extract_mk]
        simp
      · have hne : ¬ nB s.data.toList[i] = 46 := by
          intro e
          exact h46 (UInt8.toNat_inj.1 (Int.ofNat_inj.1 e))
        rw [if_neg hne]
        refine ih acc f (i + 1) (by omega) (by omega) (by omega) (by omega) ?_
        rw [htk, List.drop_append_of_le_length (by rw [List.length_take]; omega)]
        intro c hc
        rcases List.mem_append.1 hc with hc | hc
        · exact hn c hc
        · rw [List.mem_singleton.1 hc]; exact h46
    · have e : i = s.size := by omega
      subst e
      rw [List.take_of_length_le (by omega)] at hn
      rw [if_neg (by omega), if_pos (by omega), if_pos (by omega), if_pos (by omega), Int.toNat_natCast, splitD_nodot _ hn, extract_mk, List.take_of_length_le (by omega)]
      rfl
theorem ref_split (k : Nat) (s : ByteArray) (hk : s.size < k) (hs : s.size ≤ 1000000000) : stockaderef01_Split.f k s 46 = some ((splitD s.data.toList).map mkB) := by
  have := ref_split0 k s [] 0 0 (by omega) (by omega) (by omega) hs (by simp) (by simp)
  simpa [stockaderef01_Split.f] using this
theorem ref_labels (k : Nat) (s : ByteArray) (hk : s.size < k) (hs : s.size ≤ 1000000000) : stockaderef12_Labels.f k s = some ((labelsOf s.data.toList).map mkB) := by
  unfold stockaderef12_Labels.f labelsOf
  rw [ByteArray.toList_eq]
  by_cases h : s.data.toList = []
  · rw [if_pos h, if_pos h]; rfl
  · rw [if_neg h, if_neg h, ref_split k s hk hs]; rfl
theorem ref_under (s z : ByteArray) (hs : s.size ≤ 1000000000) (hz : z.size ≤ 1000000000) : stockaderef12_Under.f s z = some (underL s.data.toList z.data.toList) := by
  unfold stockaderef12_Under.f underL
  rw [ByteArray.toList_eq, ByteArray.toList_eq]
  have hl : s.data.toList.length = s.size := by simp
  have hlz : z.data.toList.length = z.size := by simp
  by_cases h0 : z.data.toList = []
  · rw [if_pos h0, h0]; rfl
  · rw [if_neg h0]
    have e0 : z.data.toList.isEmpty = false := by simpa using h0
    by_cases h1 : s.data.toList = z.data.toList
    · rw [if_pos h1, e0, h1]; simp
    · have e1 : (s.data.toList == z.data.toList) = false := by simpa using h1
      rw [if_neg h1, e0, e1, Bool.false_or, Bool.false_or, w64 _ (by omega) (by omega)]
      by_cases h2 : ((s.size : Int) - (z.size : Int)) > 0
      · obtain ⟨n, hn⟩ : ∃ n : Nat, s.size = z.size + n + 1 := ⟨s.size - z.size - 1, by omega⟩
        have hn1 : (s.size : Int) - (z.size : Int) = ((n + 1 : Nat) : Int) := by omega
        rw [if_pos h2, hn1, if_pos (by omega), if_pos (by omega), Int.toNat_natCast, extract_mk, ByteArray.toList_eq, mkB_toList, List.take_of_length_le (by omega)]
        rw [show ((n + 1 : Nat) : Int) - 1 = (n : Int) by omega, w64 _ (by omega) (by omega)]
        have hnl : n < s.data.toList.length := by omega
        have hdn : s.data.toList.drop n = s.data.toList[n] :: s.data.toList.drop (n + 1) := List.drop_eq_getElem_cons hnl
        have hsf : Lib.hasSuffix s.data.toList (46 :: z.data.toList) = decide (s.data.toList.drop n = 46 :: z.data.toList) := by
          unfold Lib.hasSuffix
          rw [Bool.eq_iff_iff, List.isSuffixOf_iff_suffix, decide_eq_true_eq]
          constructor
          · intro h
            have := List.suffix_iff_eq_drop.1 h
            rw [this]
            congr 1
            simp only [List.length_cons]
            omega
          · intro h
            exact h ▸ List.drop_suffix n _
        rw [hsf, hdn]
        by_cases h3 : s.data.toList.drop (n + 1) = z.data.toList
        · rw [if_pos h3, if_pos (by omega), if_pos (by omega), bt_nat, getD_bytes s n hnl, h3]
          congr 1
          rw [Bool.eq_iff_iff]
          simp only [beq_iff_eq, decide_eq_true_eq, List.cons.injEq, and_true]
          constructor
          · intro e; exact UInt8.toNat_inj.1 (Int.ofNat_inj.1 e)
          · intro e; rw [e]; rfl
        · rw [if_neg h3]
          congr 1
          symm
          rw [decide_eq_false_iff_not]
          intro e
          exact h3 (List.cons.inj e).2
      · rw [if_neg h2]
        congr 1
        symm
        by_cases h : Lib.hasSuffix s.data.toList (46 :: z.data.toList) = true
        · unfold Lib.hasSuffix at h
          have := (List.isSuffixOf_iff_suffix.1 h).length_le
          simp only [List.length_cons] at this
          omega
        · exact eq_false_of_ne_true h
end Go.Proofs.YtimaliamidgflaaDoor
