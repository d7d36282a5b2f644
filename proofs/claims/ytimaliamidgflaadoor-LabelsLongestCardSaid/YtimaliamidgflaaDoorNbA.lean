/-
  The law NameBack: what is written is read, wherever it stands, in capitals too; a pointer to it leads there: the plain law.
-/
import Derived.Test.YtimaliamidgflaaDoorNlA
import Derived.Test.YtimaliamidgflaaDoorPlayA
namespace Go.Proofs.YtimaliamidgflaaDoor
open Go.RowKit Go.Proofs.YtimaliamidgflaaDoorW.PrintWords
set_option linter.unusedVariables false
set_option linter.unusedSimpArgs false
set_option maxRecDepth 100000
set_option maxHeartbeats 1000000

/-- A byte, made a capital if that is asked. -/
def capB (u : Bool) (c : Int) : Int := if u = true ∧ 97 ≤ c ∧ c ≤ 122 then c - 32 else c
def capL : List Bool → List Int → List Int
  | _, [] => []
  | [], c :: w => c :: w
  | u :: us, c :: w => capB u c :: capL us w
theorem capL_len (us : List Bool) (w : List Int) : (capL us w).length = w.length := by
  induction us generalizing w with
  | nil => cases w <;> rfl
  | cons u us ih => cases w with | nil => rfl | cons c w => simp [capL, ih]
theorem capL_nil (w : List Int) : capL [] w = w := by cases w <;> rfl
theorem capL_app (us : List Bool) (x y : List Int) : capL us (x ++ y) = capL us x ++ capL (us.drop x.length) y := by
  induction x generalizing us with
  | nil => simp [capL]
  | cons c x ih =>
    cases us with
    | nil => simp [capL_nil]
    | cons u us => simp [capL, ih]
theorem capB_low (u : Bool) (c : Int) (h : ¬ (65 ≤ c ∧ c ≤ 90)) : lowB (capB u c) = c := by
  unfold lowB capB
  by_cases hu : u = true ∧ 97 ≤ c ∧ c ≤ 122
  · rw [if_pos hu]; split <;> omega
  · rw [if_neg hu, if_neg h]
theorem capB_byte (u : Bool) (c : Int) (h : 0 ≤ c ∧ c < 256) : 0 ≤ capB u c ∧ capB u c < 256 := by
  unfold capB
  split <;> omega
/-- Labels as they are written, letters in any case. -/
inductive CapW : List L → List Int → Prop
  | nil : CapW [] []
  | cons (x : L) (u : List Int) (ls : List L) (ys : List Int) : u.length = x.length → lowL u = x → CapW ls ys → CapW (x :: ls) (((x.length : Int) :: u) ++ ys)
theorem CapW.len {ls : List L} {ys : List Int} (h : CapW ls ys) : ys.length + 1 = sizeOf_ ls := by
  induction h with
  | nil => rfl
  | cons x u ls ys h1 h2 h3 ih => simp [sizeOf_] at ih ⊢; omega
theorem low_cap (us : List Bool) (x : L) (h : (x.map nB).any badB = false) : lowL (capL us (x.map nB)) = x := by
  induction x generalizing us with
  | nil => simp [capL, lowL]
  | cons c x ih =>
    rw [List.map_cons, List.any_cons, Bool.or_eq_false_iff] at h
    obtain ⟨h1, h2⟩ := h
    have hc : ¬ (65 ≤ nB c ∧ nB c ≤ 90) := by
      intro ⟨e1, e2⟩
      simp [badB, e1, e2] at h1
    have hn : ∀ u, UInt8.ofNat (lowB (capB u (nB c))).toNat = c := by
      intro u
      rw [capB_low u _ hc]
      simp [nB]
    cases us with
    | nil =>
      have := ih [] h2
      rw [capL_nil] at this ⊢
      rw [List.map_cons]
      have h3 := hn false
      simp only [capB, Bool.false_eq_true, false_and, if_false] at h3
      simp only [lowL, List.map_cons] at this ⊢
      rw [h3, this]
    | cons u us =>
      have := ih us h2
      rw [List.map_cons, capL]
      simp only [lowL, List.map_cons] at this ⊢
      rw [hn u, this]
theorem cap_wire (ls : List L) (us : List Bool) (h : ∀ x ∈ ls, labelB (mkB x) = true) : CapW ls (capL us (wireOf ls)) := by
  induction ls generalizing us with
  | nil => cases us <;> exact CapW.nil
  | cons x ls ih =>
    have hx := h x (by simp)
    rw [label_mk] at hx
    simp only [Bool.and_eq_true, decide_eq_true_eq, Bool.not_eq_true'] at hx
    obtain ⟨⟨-, h63⟩, hb⟩ := hx
    rw [wire_cons, capL_app]
    have hl : (((x.length : Int) :: x.map fun b => (b.toNat : Int)) : List Int).length = x.length + 1 := by simp
    have e : ∃ us', capL us ((x.length : Int) :: x.map fun b => (b.toNat : Int)) = (x.length : Int) :: capL us' (x.map nB) := by
      cases us with
      | nil => exact ⟨[], by rw [capL_nil, capL_nil]; rfl⟩
      | cons u us =>
        refine ⟨us, ?_⟩
        rw [capL]
        have : capB u (x.length : Int) = x.length := by unfold capB; rw [if_neg]; omega
        rw [this]; rfl
    obtain ⟨us', e⟩ := e
    rw [e]
    exact CapW.cons x _ ls _ (by rw [capL_len]; simp) (low_cap us' x hb) (ih _ (fun y hy => h y (by simp [hy])))
theorem getD_drop (xs : List Int) (a : Nat) (c : Int) (r : List Int) (h : xs.drop a = c :: r) : xs.getD a 0 = c := by
  have := congrArg (fun l => l.getD 0 0) h
  simpa [List.getD_eq_getElem?_getD] using this
theorem drop_len (xs : List Int) (a : Nat) (r : List Int) (h : xs.drop a = r) (h0 : r ≠ []) : xs.length = a + r.length := by
  have := congrArg List.length h
  rw [List.length_drop] at this
  have : 0 < r.length := List.length_pos_iff.2 h0
  omega
theorem read_caps (ls : List L) (ys : List Int) (h : CapW ls ys) (ls0 : List L) (K : Nat) (xs : List Int) (a : Nat) (b e : Int) (rest : List Int) (hd : xs.drop a = ys ++ 0 :: rest)
    (hl : ∀ x ∈ ls, labelB (mkB x) = true) (hs : sizeOf_ (ls0 ++ ls) ≤ 255) :
    readF (K + ls.length + 1) xs (a : Int) b e ls0 = (nameOf (ls0 ++ ls), if e < 0 then ((a + ys.length + 1 : Nat) : Int) else e, .none) := by
  induction h generalizing ls0 K a with
  | nil =>
    have hlen := drop_len xs a _ hd (by simp)
    have hg := getD_drop xs a 0 rest hd
    rw [readF, if_neg (by rw [hlen]; simp; omega), Int.toNat_natCast, if_pos hg]
    simp
  | cons x u ls ys h1 h2 h3 ih =>
    have hlen := drop_len xs a _ hd (by simp)
    simp only [List.length_append, List.length_cons] at hlen
    have hg : xs.getD a 0 = (x.length : Int) := getD_drop xs a _ _ (by rw [hd]; rfl)
    have hx := hl x (by simp)
    have hx' := hx
    rw [labelB, mkB_size] at hx
    simp only [Bool.and_eq_true, decide_eq_true_eq] at hx
    obtain ⟨⟨hx1, hx63⟩, -⟩ := hx
    have hd1 : xs.drop (a + 1) = u ++ (ys ++ 0 :: rest) := by
      rw [← List.drop_drop, hd]; simp
    have hlab : lab xs (a : Int) (x.length : Int) = x := by
      unfold lab
      rw [show ((a : Int) + 1).toNat = a + 1 by omega, hd1, Int.toNat_natCast, ← h1, List.take_left']
      · exact h2
      · rfl
    have hE : readE xs (a : Int) (x.length : Int) ls0 = .none := by
      have hsz : sizeOf_ (ls0 ++ [x]) ≤ sizeOf_ (ls0 ++ x :: ls) := by simp [sizeOf_]
      unfold readE
      rw [hlab, hx', if_neg (show ¬ ((xs.length : Int) - (x.length : Int) < (a : Int) + 1) by omega), if_neg (show ¬ (true = false) by simp), if_neg (show ¬ 255 < sizeOf_ (ls0 ++ [x]) by omega)]
    have hd2 : xs.drop (a + 1 + x.length) = ys ++ 0 :: rest := by
      rw [← List.drop_drop, hd1, ← h1, List.drop_left']; rfl
    have ih' := ih (ls0 ++ [x]) K (a + 1 + x.length) hd2 (fun y hy => hl y (by simp [hy])) (by rw [List.append_assoc]; exact hs)
    rw [List.length_cons, show K + (ls.length + 1) + 1 = (K + ls.length + 1) + 1 by omega, readF, if_neg (by rw [hlen]; simp; omega), Int.toNat_natCast, hg, if_neg (by omega), if_pos (by omega), if_pos hE, hlab]
    rw [show (a : Int) + 1 + (x.length : Int) = ((a + 1 + x.length : Nat) : Int) by simp, ih', List.append_assoc]
    simp only [List.cons_append, List.nil_append, List.length_cons, List.length_append, h1]
    congr 2
    split
    · omega
    · rfl
theorem labels_len (ls : List L) (h : ∀ x ∈ ls, labelB (mkB x) = true) : ls.length ≤ sizeOf_ ls := by
  induction ls with
  | nil => simp
  | cons x ls ih => have := ih (fun y hy => h y (by simp [hy])); simp [sizeOf_] at this ⊢; omega
theorem right_labels (s : L) (h : rightL s = true) : sizeOf_ (labelsOf s) ≤ 255 ∧ ∀ x ∈ labelsOf s, labelB (mkB x) = true := by
  unfold rightL at h
  simp only [Bool.and_eq_true, decide_eq_true_eq, Bool.not_eq_true'] at h
  refine ⟨h.1, fun x hx => ?_⟩
  have := List.any_eq_false.1 h.2 x hx
  simpa using this
theorem name_labels (s : L) : nameOf (labelsOf s) = s := by
  rw [nameOf_join]
  unfold labelsOf
  split
  · rename_i h; rw [h]; rfl
  · exact join_split s
/-- The first of the two reads. -/
theorem back_read (s : L) (hr : rightL s = true) (us : List Bool) (ah rest : List Int) :
    readF ((ah.length : Int).toNat * 300 + 301) (ah ++ (capL us (wireOf (labelsOf s)) ++ 0 :: rest)) (ah.length : Int) (ah.length : Int) (-1) [] = (s, ((ah.length + (wireOf (labelsOf s)).length + 1 : Nat) : Int), .none) := by
  obtain ⟨hs, hl⟩ := right_labels s hr
  have hc := cap_wire _ us hl
  have hn := labels_len _ hl
  have h := read_caps _ _ hc [] ((ah.length : Int).toNat * 300 + 300 - (labelsOf s).length) (ah ++ (capL us (wireOf (labelsOf s)) ++ 0 :: rest)) ah.length (ah.length : Int) (-1) rest (by simp) hl hs
  rw [show (ah.length : Int).toNat * 300 + 300 - (labelsOf s).length + (labelsOf s).length + 1 = (ah.length : Int).toNat * 300 + 301 by omega, List.nil_append, name_labels, if_pos (by decide), capL_len] at h
  exact h
def zName (s : L) : L := if s = [] then [122] else 122 :: 46 :: s
/-- The second. -/
theorem back_point (s : L) (hr : rightL s = true) (hl60 : s.length ≤ 60) (us : List Bool) (ah bh : List Int) (h5 : ah.length ≤ 500) (b : List Int) (hb : b = ah ++ (capL us (wireOf (labelsOf s)) ++ 0 :: bh)) :
    readF ((b.length : Int).toNat * 300 + 301) (b ++ [1, 122, 192 + (ah.length : Int) / 256, (ah.length : Int) % 256]) (b.length : Int) (b.length : Int) (-1) [] = (zName s, (b.length : Int) + 4, .none) := by
  obtain ⟨hs, hl⟩ := right_labels s hr
  have hc := cap_wire _ us hl
  have hn := labels_len _ hl
  have hbl : b.length = ah.length + (wireOf (labelsOf s)).length + 1 + bh.length := by rw [hb]; simp [capL_len]; omega
  have hd : ∀ i : Nat, (b ++ [1, 122, 192 + (ah.length : Int) / 256, (ah.length : Int) % 256]).drop (b.length + i) = ([1, 122, 192 + (ah.length : Int) / 256, (ah.length : Int) % 256] : List Int).drop i := by
    intro i
    rw [List.drop_append, List.drop_eq_nil_of_le (by omega)]
    simp
  have hd0 : (b ++ [1, 122, 192 + (ah.length : Int) / 256, (ah.length : Int) % 256]).drop ah.length = capL us (wireOf (labelsOf s)) ++ 0 :: (bh ++ [1, 122, 192 + (ah.length : Int) / 256, (ah.length : Int) % 256]) := by
    rw [hb]; simp
  have hlen : (b ++ [1, 122, 192 + (ah.length : Int) / 256, (ah.length : Int) % 256]).length = b.length + 4 := by simp
  generalize b ++ [1, 122, 192 + (ah.length : Int) / 256, (ah.length : Int) % 256] = xs at hd hd0 hlen ⊢
  have g0 : xs.getD b.length 0 = 1 := getD_drop xs _ _ _ (hd 0)
  have g2 : xs.getD (b.length + 2) 0 = 192 + (ah.length : Int) / 256 := getD_drop xs _ _ _ (hd 2)
  have hlab : lab xs (b.length : Int) 1 = [122] := by
    unfold lab
    rw [show ((b.length : Int) + 1).toNat = b.length + 1 by omega, hd 1]; rfl
  have hE : readE xs (b.length : Int) 1 [] = .none := by
    unfold readE
    rw [if_neg (by omega), hlab, if_neg (by decide +kernel), if_neg (by decide +kernel)]
  have ha2 : ((b.length : Int) + 1 + 1).toNat = b.length + 2 := by omega
  have hto : leapTo xs ((b.length : Int) + 1 + 1) = (ah.length : Int) := by
    unfold leapTo
    rw [ha2, hd 2]
    show be [192 + (ah.length : Int) / 256, (ah.length : Int) % 256] % 16384 = (ah.length : Int)
    rw [show be [192 + (ah.length : Int) / 256, (ah.length : Int) % 256] = (192 + (ah.length : Int) / 256) * 256 + (ah.length : Int) % 256 by simp [be]]
    omega
  have hleap : leapE xs ((b.length : Int) + 1 + 1) (b.length : Int) = .none := by
    unfold leapE
    rw [if_neg (by omega), hto, if_neg (by omega)]
  have hK : (b.length : Int).toNat * 300 + 301 = ((b.length : Int).toNat * 300 + 298 - (labelsOf s).length + (labelsOf s).length + 1) + 1 + 1 := by omega
  rw [hK, readF, if_neg (by omega), Int.toNat_natCast, g0, if_neg (by decide), if_pos (by decide), if_pos hE, readF, if_neg (by omega), ha2, g2, if_neg (by omega), if_neg (by omega), if_pos (by omega), if_pos hleap, hto, hlab]
  have hw := wire_len (labelsOf s)
  have hsz : sizeOf_ ([] ++ [[122]] ++ labelsOf s) ≤ 255 := by
    have h1 : sizeOf_ (labelsOf s) ≤ s.length + 2 := by
      unfold labelsOf
      split
      · simp [sizeOf_]
      · rw [splitD_sz]; exact Nat.le_refl _
    simp [sizeOf_] at h1 ⊢; omega
  have h := read_caps _ _ hc ([] ++ [[122]]) ((b.length : Int).toNat * 300 + 298 - (labelsOf s).length) xs ah.length (ah.length : Int) ((b.length : Int) + 1 + 1 + 2) _ hd0 hl hsz
  rw [Int.toNat_natCast] at h
  rw [if_pos (by decide), h, if_neg (by omega)]
  have hz : nameOf ([] ++ [[122]] ++ labelsOf s) = zName s := by
    rw [nameOf_join]
    unfold zName labelsOf
    by_cases h0 : s = []
    · rw [if_pos h0, if_pos h0]; rfl
    · rw [if_neg h0, if_neg h0]
      have hj := join_split s
      cases hs2 : splitD s with
      | nil => exact absurd hs2 (splitD_ne s)
      | cons p ps => rw [hs2] at hj; rw [← hj]; simp [joinL, tailJ]
  rw [hz]
  congr 2
end Go.Proofs.YtimaliamidgflaaDoor
