/-
  Messages that are parsed: they are right: the plain law.
-/
import Derived.Test.YtlkneoednkhleaaGreatDoorGu
namespace Go.Proofs.YtlkneoednkhleaaGreatDoor
open Go.RowKit Go.Proofs.YtlkneoednkhleaaGreatDoorW.PrintWords
set_option linter.unusedVariables false
set_option linter.unusedSimpArgs false
set_option maxRecDepth 100000
set_option maxHeartbeats 2000000

theorem right_nil : rightL [] = true := by decide +kernel
theorem join_right (ls : List L) (h : ∀ x ∈ ls, labelB (mkB x) = true) (hs : sizeOf_ ls ≤ 255) : rightL (nameOf ls) = true := by
  rw [nameOf_join]
  cases ls with
  | nil => exact right_nil
  | cons x r =>
    have hf : ∀ y ∈ x :: r, y ≠ [] ∧ ∀ c ∈ y, c ≠ 46 := by
      intro y hy
      have hb := h y hy
      rw [label_mk] at hb
      simp only [Bool.and_eq_true, decide_eq_true_eq, Bool.not_eq_true'] at hb
      obtain ⟨⟨h1, -⟩, hb⟩ := hb
      refine ⟨by intro e; subst e; simp at h1, ?_⟩
      intro c hc e
      subst e
      exact List.any_eq_false.1 hb (nB 46) (List.mem_map.2 ⟨46, hc, rfl⟩) (by decide)
    have hne : joinL (x :: r) ≠ [] := by
      have := (hf x (by simp)).1
      simp [joinL, this]
    have hsp := split_join (x :: r) (by simp) (fun y hy => (hf y hy).2)
    unfold rightL labelsOf
    rw [if_neg hne, hsp]
    have ha : (x :: r).any (fun y => !labelB (mkB y)) = false := by
      rw [List.any_eq_false]
      intro y hy
      simp [h y hy]
    rw [ha]
    simpa using hs
theorem readF_right (k : Nat) (xs : List Int) (a b e : Int) (ls : List L) (h : ∀ x ∈ ls, labelB (mkB x) = true) (hs : sizeOf_ ls ≤ 255) : rightL (readF k xs a b e ls).1 = true := by
  induction k generalizing a b e ls with
  | zero => exact right_nil
  | succ k ih =>
    rw [readF]
    split
    · exact right_nil
    · split
      · exact join_right ls h hs
      · split
        · split
          · rename_i hE
            refine ih _ _ _ _ ?_ (readE_size _ _ _ _ hE)
            intro x hx
            rcases List.mem_append.1 hx with hx | hx
            · exact h x hx
            · rw [List.mem_singleton.1 hx]
              unfold readE at hE
              split at hE
              · cases hE
              · split at hE
                · cases hE
                · rename_i h2
                  simpa using h2
          · exact right_nil
        · split
          · split
            · exact ih _ _ _ _ h hs
            · exact right_nil
          · exact right_nil
theorem readN_right (xs : List Int) (a : Int) : rightL (readN xs a).1 = true := by
  unfold readN
  split
  · exact right_nil
  · exact readF_right _ _ _ _ _ _ (fun x hx => by cases hx) (by decide)
theorem quR_right (xs : List Int) (a : Int) (hx : Byts xs) : (quR xs a).1.right = true := by
  have hz : Qu.right Qu.zero = true := by decide +kernel
  have hn := readN_right xs a
  unfold quR
  split
  · exact hz
  · split
    · exact hz
    · split
      · exact hz
      · have h1 := u16_range xs (readN xs a).2.1 hx
        have h2 := u16_range xs ((readN xs a).2.1 + 2) hx
        simp [Qu.right, hn, within, h1, h2]
theorem partV_mem {xs : List Int} {a n : Int} {x : Int} (h : x ∈ partV xs a n) : x ∈ xs := by
  unfold partV at h
  split at h
  · exact List.mem_of_mem_drop (List.mem_of_mem_take h)
  · cases h
theorem partV_len (xs : List Int) (a n : Int) : (partV xs a n).length ≤ xs.length := by
  unfold partV
  split
  · rw [List.length_take, List.length_drop]; omega
  · simp
/-- A record that was read. -/
structure Rec.Read (xs : List Int) (r : Rec) : Prop where
  q : Qu.right ⟨r.name, r.typ, r.cls⟩ = true
  t : rightL r.tgt = true
  ok : r.ok
  ttl : 0 ≤ r.ttl ∧ r.ttl ≤ 4294967295
  d : r.data.length ≤ xs.length
  right : r.data.length ≤ 1000 → r.right = true
theorem adOf_ok (t : Int) (d : List Int) (h : Byts d) : (adOf t d).ok := by
  intro i hi
  unfold adOf
  dsimp only
  split
  · by_cases hd : i < d.length
    · exact h _ (getD_mem d 0 i hd)
    · rw [List.getD_eq_getElem?_getD, List.getElem?_eq_none (by omega)]; decide
  · decide
theorem adOf_right (t : Int) (d : List Int) (h : szT t ≠ 0) : (adOf t d).right = true := by
  rcases szT_cases t with ⟨h1, h2⟩ | ⟨h1, h2⟩ | h2
  · subst h1; rfl
  · subst h1
    have e : (adOf 1 d).l.drop 4 = [0, 0, 0, 0, 0, 0, 0, 0, 0, 0, 0, 0] := rfl
    unfold Ad.right
    rw [e]
    rfl
  · exact absurd h2 h
theorem fillR_read (xs : List Int) (a : Int) (hx : Byts xs) (n : L) (t c l : Int) (hq : Qu.right ⟨n, t, c⟩ = true) (hl : 0 ≤ l ∧ l ≤ 4294967295) (h : (fillR xs a ⟨n, t, c, l, Ad.zero, [], []⟩).2.2 = .none) :
    Rec.Read xs (fillR xs a ⟨n, t, c, l, Ad.zero, [], []⟩).1 := by
  have hz : Ad.plain Ad.zero = true := by decide +kernel
  have hb0 : Byts ([] : List Int) := fun x hx => by cases hx
  unfold fillR at h ⊢
  dsimp only at h ⊢
  split at h
  · rename_i h1; exact absurd h h1
  rename_i h1
  rw [if_neg h1]
  split at h
  · cases h
  rename_i h2
  rw [if_neg h2]
  split at h
  · rename_i h5
    rw [if_pos h5]
    split at h
    · rename_i h6; exact absurd h h6
    rename_i h6
    rw [if_neg h6]
    split at h
    · cases h
    rename_i h7
    rw [if_neg h7]
    have ht := readN_right xs (a + 2)
    refine ⟨hq, ht, ⟨Ad.ok_zero, hb0⟩, hl, Nat.zero_le _, fun _ => ?_⟩
    unfold Rec.right Rec.tail
    dsimp only
    rw [hq, ht, if_neg (by omega), if_pos h5, hz]
    rfl
  rename_i h5
  rw [if_neg h5]
  split at h
  · rename_i h6
    rw [if_pos h6]
    have ht : ¬ (t = 1 ∨ t = 28) := by
      rintro (e | e) <;> subst e <;> exact absurd h6 (by decide)
    refine ⟨hq, right_nil, ⟨Ad.ok_zero, fun x hm => hx x (partV_mem hm)⟩, hl, partV_len _ _ _, fun hd => ?_⟩
    unfold Rec.right Rec.tail
    dsimp only at hd ⊢
    rw [hq, right_nil, if_neg ht, if_neg h5, hz]
    simpa using hd
  rename_i h6
  rw [if_neg h6]
  split at h
  · cases h
  rename_i h7
  rw [if_neg h7]
  have ht : t = 1 ∨ t = 28 := by
    rcases szT_cases t with ⟨h1, -⟩ | ⟨h1, -⟩ | h1
    · exact .inr h1
    · exact .inl h1
    · exact absurd h1 h6
  refine ⟨hq, right_nil, ⟨adOf_ok _ _ (fun x hm => hx x (partV_mem hm)), hb0⟩, hl, Nat.zero_le _, fun _ => ?_⟩
  unfold Rec.right Rec.tail
  dsimp only
  rw [hq, right_nil, if_pos ht, adOf_right t _ h6]
  simp [adOf]
theorem recR_read (xs : List Int) (a : Int) (hx : Byts xs) (h : (recR xs a).2.2 = .none) : Rec.Read xs (recR xs a).1 := by
  have hq := quR_right xs a hx
  unfold recR at h ⊢
  split at h
  · rename_i h1; exact absurd h h1
  rename_i h1
  rw [if_neg h1]
  split at h
  · rename_i h2; exact absurd h h2
  rename_i h2
  rw [if_neg h2]
  dsimp only at h ⊢
  split at h
  · rename_i h3; exact absurd h h3
  rename_i h3
  rw [if_neg h3]
  have ht := num_range xs (quR xs a).2.1 4 hx (.inr rfl)
  exact fillR_read xs _ hx _ _ _ _ hq ⟨ht.1, ht.2.1⟩ h
theorem qsR_read (xs : List Int) (hx : Byts xs) : ∀ (n : Nat) (a : Int) (acc : List Qu), (qsR xs n a acc).2.2 = .none → ∃ new, (qsR xs n a acc).1 = acc ++ new ∧ new.length = n ∧ ∀ q ∈ new, q.right = true
  | 0, a, acc, _ => ⟨[], (List.append_nil _).symm, rfl, fun q hq => by cases hq⟩
  | n + 1, a, acc, h => by
    rw [qsR] at h ⊢
    split at h
    · rename_i h1; exact absurd h h1
    rename_i h1
    rw [if_neg h1]
    obtain ⟨new, e, hl, hr⟩ := qsR_read xs hx n _ _ h
    refine ⟨(quR xs a).1 :: new, by rw [e, List.append_assoc]; rfl, by simp [hl], fun q hq => ?_⟩
    rcases List.mem_cons.1 hq with rfl | hq
    · exact quR_right xs a hx
    · exact hr q hq
theorem rsR_read (xs : List Int) (hx : Byts xs) : ∀ (n : Nat) (a : Int) (acc : List Rec), (rsR xs n a acc).2.2 = .none → ∃ new, (rsR xs n a acc).1 = acc ++ new ∧ new.length = n ∧ ∀ r ∈ new, Rec.Read xs r
  | 0, a, acc, _ => ⟨[], (List.append_nil _).symm, rfl, fun q hq => by cases hq⟩
  | n + 1, a, acc, h => by
    rw [rsR] at h ⊢
    split at h
    · rename_i h1; exact absurd h h1
    rename_i h1
    rw [if_neg h1]
    obtain ⟨new, e, hl, hr⟩ := rsR_read xs hx n _ _ h
    refine ⟨(recR xs a).1 :: new, by rw [e, List.append_assoc]; rfl, by simp [hl], fun r hr' => ?_⟩
    rcases List.mem_cons.1 hr' with rfl | hr'
    · exact recR_read xs a hx (by simpa using h1)
    · exact hr r hr'
theorem bodyR_read (xs : List Int) (hx : Byts xs) (n0 n1 n2 n3 : Nat) (h : (bodyR xs n0 n1 n2 n3).2.2 = .none) :
    ((bodyR xs n0 n1 n2 n3).1.1.length = n0 ∧ ∀ q ∈ (bodyR xs n0 n1 n2 n3).1.1, q.right = true) ∧ ((bodyR xs n0 n1 n2 n3).1.2.1.length = n1 ∧ ∀ r ∈ (bodyR xs n0 n1 n2 n3).1.2.1, Rec.Read xs r) ∧
    ((bodyR xs n0 n1 n2 n3).1.2.2.1.length = n2 ∧ ∀ r ∈ (bodyR xs n0 n1 n2 n3).1.2.2.1, Rec.Read xs r) ∧ ((bodyR xs n0 n1 n2 n3).1.2.2.2.length = n3 ∧ ∀ r ∈ (bodyR xs n0 n1 n2 n3).1.2.2.2, Rec.Read xs r) := by
  unfold bodyR bodyR1 bodyR2 bodyR3 at h ⊢
  split at h
  · rename_i h1; exact absurd h h1
  rename_i h1
  rw [if_neg h1]
  split at h
  · rename_i h2; exact absurd h h2
  rename_i h2
  rw [if_neg h2]
  split at h
  · rename_i h3; exact absurd h h3
  rename_i h3
  rw [if_neg h3]
  split at h
  · rename_i h4; exact absurd h h4
  rename_i h4
  rw [if_neg h4]
  dsimp only
  obtain ⟨q, e0, l0, r0⟩ := qsR_read xs hx n0 12 [] (by simpa using h1)
  obtain ⟨x1, e1, l1, r1⟩ := rsR_read xs hx n1 _ [] (by simpa using h2)
  obtain ⟨x2, e2, l2, r2⟩ := rsR_read xs hx n2 _ [] (by simpa using h3)
  obtain ⟨x3, e3, l3, r3⟩ := rsR_read xs hx n3 _ [] (by simpa using h4)
  rw [List.nil_append] at e0 e1 e2 e3
  rw [e3, e2, e1, e0]
  exact ⟨⟨l0, r0⟩, ⟨l1, r1⟩, ⟨l2, r2⟩, l3, r3⟩
/-- What is parsed is right. -/
theorem parse_read (xs : List Int) (hx : Byts xs) (m : Msg) (h : parseM xs = (m, .none)) : m.headOk = true ∧ (∀ q ∈ m.qs, q.right = true) ∧ (∀ r ∈ m.all, Rec.Read xs r) := by
  have f1 := u16_range xs 0 hx
  have f2 := u16_range xs 2 hx
  unfold parseM at h
  split at h
  · cases h
  split at h
  · cases h
  split at h
  · cases h
  rename_i hc
  split at h
  · rename_i h1
    injection h with h2 h3
    rw [h3] at h1
    cases h1
  rename_i h1
  split at h
  · cases h
  rename_i h2
  injection h with h3 h4
  have hb : (bodyR xs (cntM xs 4) (cntM xs 6) (cntM xs 8) (cntM xs 10)).2.2 = .none := by
    by_cases hn : (bodyR xs (cntM xs 4) (cntM xs 6) (cntM xs 8) (cntM xs 10)).2.2 = .none
    · exact hn
    · have h0 := bodyR_err _ _ _ _ _ hn
      omega
  obtain ⟨⟨l0, r0⟩, ⟨l1, r1⟩, ⟨l2, r2⟩, l3, r3⟩ := bodyR_read xs hx _ _ _ _ hb
  subst h3
  refine ⟨?_, r0, ?_⟩
  · have hall : (headM xs (bodyR xs (cntM xs 4) (cntM xs 6) (cntM xs 8) (cntM xs 10)).1).all.length = cntM xs 6 + cntM xs 8 + cntM xs 10 := by
      unfold Msg.all headM
      rw [List.length_append, List.length_append]
      dsimp only
      omega
    unfold Msg.headOk
    rw [hall]
    unfold headM inB
    dsimp only
    simp only [Bool.and_eq_true, decide_eq_true_eq]
    omega
  · intro r hr
    unfold Msg.all headM at hr
    dsimp only at hr
    rcases List.mem_append.1 hr with hr | hr
    · rcases List.mem_append.1 hr with hr | hr
      · exact r1 r hr
      · exact r2 r hr
    · exact r3 r hr
theorem Rec.norm_like (r : Rec) (h : r.right = true) : r.norm.ad.v6 = r.ad.v6 ∧ r.norm.ad.l = r.ad.l := norm_ad r h
end Go.Proofs.YtlkneoednkhleaaGreatDoor
