/-
  The document's answers for records: ReadRecord reads what the plain reader reads.
-/
import Derived.Test.YtlkneoednkhleaaGreatDoorYZRtH
namespace Go.Proofs.YtlkneoednkhleaaGreatDoor
open Go.RowKit Go.Proofs.YtlkneoednkhleaaGreatDoorW.PrintWords Go.Proofs.YtlkneoednkhleaaGreatDoor.P
set_option linter.unusedVariables false
set_option linter.unusedSimpArgs false
set_option maxRecDepth 100000
set_option maxHeartbeats 1000000

theorem readN_numR (xs : List Int) (a : Int) : (readN xs a).2.2 = .none ∨ (readN xs a).2.2.num ≠ 0 := by
  unfold readN
  split
  · exact .inr (by decide)
  · exact readF_numR ..
theorem quR_numR (xs : List Int) (a : Int) : (quR xs a).2.2 = .none ∨ (quR xs a).2.2.num ≠ 0 := by
  unfold quR
  split
  · exact readN_numR xs a
  · split
    · exact partE_cases ..
    · split
      · exact partE_cases ..
      · exact .inl rfl
theorem fillR_numR (xs : List Int) (a : Int) (r : Rec) : (fillR xs a r).2.2 = .none ∨ (fillR xs a r).2.2.num ≠ 0 := by
  unfold fillR
  split
  · exact partE_cases ..
  · split
    · exact .inr (by simp [Er.num])
    · split
      · split
        · exact readN_numR ..
        · split
          · exact .inr (by simp [Er.num])
          · exact .inl rfl
      · split
        · exact .inl rfl
        · split
          · exact .inr (by simp [Er.num])
          · exact .inl rfl
theorem num_ne {e : Er} (h : e = .none ∨ e.num ≠ 0) (h2 : e ≠ .none) : e.num ≠ 0 := h.resolve_left h2
theorem bK_part (xs : List Int) (a k : Nat) (i : Nat) (h : i < k) : ((xs.drop a).take k).getD i 0 = xs.getD (a + i) 0 := by
  rw [List.getD_eq_getElem?_getD, List.getD_eq_getElem?_getD, List.getElem?_take, if_pos h, List.getElem?_drop]
theorem adOf_bK (xs : List Int) (t : Int) (p : Int) (k : Nat) (hk : szT t = k) (h : askE xs.length (p + 2) k = .none) : adOf t (partV xs (p + 2) k) = ⟨decide (t = 28), bK xs (p + 2).toNat k⟩ := by
  unfold adOf
  congr 1
  funext i
  unfold bK
  by_cases hi : i < k
  · rw [if_pos (by rw [hk]; omega), if_pos hi]
    unfold partV
    rw [if_pos h, Int.toNat_natCast]
    exact bK_part xs _ k i hi
  · rw [if_neg (by rw [hk]; omega), if_neg hi]
theorem rdata_all (A : Option Addr) (c : Nat) (xs : List Int) (qn : L) (qt qc tl p : Int) (w : World) (r r' : Rec) (en : Int) (er : Er) (h : (Kd.int .u8).C w A xs.length xs) (hc : xs.length ≤ c) (hx : Byts xs) (hl : xs.length ≤ 1000000)
    (hp : partE xs.length p 2 = .none) (hn : partE xs.length (p + 2) (numV xs p 2) = .none) (hf : fillR xs p ⟨qn, qt, qc, tl, Ad.zero, [], []⟩ = (r, en, er)) (hr' : r' = if er = .none then r else Rec.zero) :
    Calls Tryz.prog 47 #[.slice A xs.length c, .agg #[.string (mkB qn), .int .i64 qt, .int .i64 qc, .int .u32 tl, .bool false, .int .u8 ((fun _ => (0 : Int)) 0), .int .u8 ((fun _ => (0 : Int)) 1), .int .u8 ((fun _ => (0 : Int)) 2), .int .u8 ((fun _ => (0 : Int)) 3), .int .u8 ((fun _ => (0 : Int)) 4), .int .u8 ((fun _ => (0 : Int)) 5), .int .u8 ((fun _ => (0 : Int)) 6), .int .u8 ((fun _ => (0 : Int)) 7), .int .u8 ((fun _ => (0 : Int)) 8), .int .u8 ((fun _ => (0 : Int)) 9), .int .u8 ((fun _ => (0 : Int)) 10), .int .u8 ((fun _ => (0 : Int)) 11), .int .u8 ((fun _ => (0 : Int)) 12), .int .u8 ((fun _ => (0 : Int)) 13), .int .u8 ((fun _ => (0 : Int)) 14), .int .u8 ((fun _ => (0 : Int)) 15), .string ⟨#[]⟩, .slice none 0 0], .int .i64 (p + 2), .int .i64 (numV xs p 2)] w (DataPost r' er w) := by
  obtain ⟨p0, -, p1⟩ := partE_none hp
  have p1 := p1 (by decide)
  obtain ⟨n0, n1, -⟩ := num_range xs p 2 hx (.inl rfl)
  obtain ⟨-, -, p2⟩ := partE_none hn
  have hend : p + 2 + numV xs p 2 ≤ xs.length := by
    by_cases hz : 0 < numV xs p 2
    · have := p2 hz; omega
    · omega
  have hask : askE xs.length (p + 2) (numV xs p 2) = .none := by
    unfold askE
    rw [if_neg (by omega), if_neg (by omega)]
  unfold fillR at hf
  rw [if_neg (by simpa using hp), if_neg (by simpa using hn)] at hf
  dsimp only at hf
  obtain ⟨n, hnn⟩ : ∃ n, numV xs p 2 = n := ⟨_, rfl⟩
  rw [hnn] at n0 n1 hend hask hf ⊢
  split at hf
  · rename_i h5
    subst h5
    obtain ⟨nm, e2, e1, hrd⟩ : ∃ nm en e1, readN xs (p + 2) = (nm, en, e1) := ⟨_, _, _, rfl⟩
    rw [hrd] at hf
    dsimp only at hf
    split at hf
    · rename_i he
      injection hf with a1 a2
      injection a2 with a2 a3
      subst a3
      rw [if_neg he] at hr'
      subst hr'
      have hnum := num_ne (by have := readN_numR xs (p + 2); rw [hrd] at this; exact this) he
      exact rdata_5a A c xs qn qc tl (p + 2) n w h hc hx hl n0 (by omega) hend nm e2 e1 hrd hnum
    · rename_i he
      have he : e1 = .none := by simpa using he
      subst he
      split at hf
      · rename_i hne
        injection hf with a1 a2
        injection a2 with a2 a3
        subst a3
        rw [if_neg (by simp)] at hr'
        subst hr'
        have := rdata_5b A c xs qn qc tl (p + 2) n w h hc hx hl n0 (by omega) hend nm e2 hrd hne
        rw [show p + 2 - 2 = p by omega] at this
        exact this
      · rename_i hne
        have hne : e2 = p + 2 + n := by simpa using hne
        injection hf with a1 a2
        injection a2 with a2 a3
        subst a3
        rw [if_pos rfl, ← a1] at hr'
        subst hr'
        exact rdata_5c A c xs qn qc tl (p + 2) n w h hc hx hl n0 (by omega) hend nm e2 hrd hne
  · rename_i h5
    split at hf
    · rename_i hz
      have h1 : qt ≠ 1 := by rintro rfl; revert hz; decide
      have h28 : qt ≠ 28 := by rintro rfl; revert hz; decide
      injection hf with a1 a2
      injection a2 with a2 a3
      subst a3
      rw [if_pos rfl, ← a1] at hr'
      subst hr'
      have := rdata_o A c xs qn qt qc tl (p + 2) n w h hc hx hl n0 (by omega) hend h1 h28 h5
      unfold partV
      rw [if_pos hask]
      exact this
    · rename_i hz
      have ht : qt = 1 ∨ qt = 28 := by
        unfold szT at hz
        split at hz
        · exact .inr ‹_›
        · split at hz
          · exact .inl ‹_›
          · exact absurd rfl hz
      split at hf
      · rename_i hne
        injection hf with a1 a2
        injection a2 with a2 a3
        subst a3
        rw [if_neg (by simp)] at hr'
        subst hr'
        rcases ht with rfl | rfl
        · have := rdata_1b A c xs qn qc tl (p + 2) n w h hc hx hl n0 (by omega) hend (by rw [show szT 1 = 4 by decide] at hne; omega)
          rw [show p + 2 - 2 = p by omega] at this
          exact this
        · have := rdata_28b A c xs qn qc tl (p + 2) n w h hc hx hl n0 (by omega) hend (by rw [show szT 28 = 16 by decide] at hne; omega)
          rw [show p + 2 - 2 = p by omega] at this
          exact this
      · rename_i hne
        injection hf with a1 a2
        injection a2 with a2 a3
        subst a3
        rw [if_pos rfl, ← a1] at hr'
        subst hr'
        rcases ht with rfl | rfl
        · obtain rfl : n = 4 := by rw [show szT 1 = 4 by decide] at hne; omega
          have h4 := adOf_bK xs 1 p 4 (by decide) hask
          rw [show ((4 : Nat) : Int) = 4 from rfl] at h4
          rw [h4]
          exact rdata_1g A c xs qn qc tl (p + 2) w h hc hx hl (by omega) hend
        · obtain rfl : n = 16 := by rw [show szT 28 = 16 by decide] at hne; omega
          have h4 := adOf_bK xs 28 p 16 (by decide) hask
          rw [show ((16 : Nat) : Int) = 16 from rfl] at h4
          rw [h4]
          exact rdata_28g A c xs qn qc tl (p + 2) w h hc hx hl (by omega) hend
theorem rread_all (A : Option Addr) (c : Nat) (xs : List Int) (a : Int) (w : World) (r : Rec) (n : Int) (er : Er) (h : (Kd.int .u8).C w A xs.length xs) (hc : xs.length ≤ c) (hx : Byts xs) (hl : xs.length ≤ 1000000) (hr : recR xs a = (r, n, er)) :
    Calls Tryz.prog 14 #[.slice A xs.length c, .int .i64 a] w (RRPost r n er w) := by
  obtain ⟨⟨qn, qt, qc⟩, tn, e1, hq⟩ : ∃ q tn e1, quR xs a = (q, tn, e1) := ⟨_, _, _, rfl⟩
  have hend := quR_end xs a hx
  have hnq := quR_numR xs a
  unfold recR at hr
  rw [hq] at hr hend hnq
  dsimp only at hr hend hnq
  split at hr
  · rename_i he
    injection hr with a1 a2
    injection a2 with a2 a3
    subst a1 a2 a3
    exact rread_a A c xs a w h hc hx hl qn qt qc tn e1 hq (num_ne hnq he)
  · rename_i he
    have he : e1 = .none := by simpa using he
    subst he
    split at hr
    · rename_i hu
      injection hr with a1 a2
      injection a2 with a2 a3
      subst a1 a2 a3
      exact rread_b A c xs a w h hc hx hl qn qt qc tn hq hend.1 hend.2 _ _ rfl rfl (num_ne (partE_cases _ _ _) hu)
    · rename_i hu
      have hu : partE xs.length tn 4 = .none := by simpa using hu
      obtain ⟨-, -, u1⟩ := partE_none hu
      have u1 := u1 (by decide)
      obtain ⟨rr, en, e2, hf⟩ : ∃ rr en e2, fillR xs (tn + 4) { Rec.zero with name := qn, typ := qt, cls := qc, ttl := numV xs tn 4 } = (rr, en, e2) := ⟨_, _, _, rfl⟩
      have hnf := fillR_numR xs (tn + 4) { Rec.zero with name := qn, typ := qt, cls := qc, ttl := numV xs tn 4 }
      rw [hf] at hr hnf
      dsimp only at hr hnf
      by_cases hn : partE xs.length (tn + 4) 2 = .none
      · obtain ⟨-, -, v1⟩ := partE_none hn
        have v1 := v1 (by decide)
        obtain ⟨n0, -, n1⟩ := num_range xs (tn + 4) 2 hx (.inl rfl)
        have n1 := n1 rfl
        by_cases hs : (xs.length : Int) - tn - 6 < numV xs (tn + 4) 2
        · have hsh : partE xs.length (tn + 4 + 2) (numV xs (tn + 4) 2) ≠ .none := by
            intro h0
            obtain ⟨-, -, h1⟩ := partE_none h0
            have h1 := h1 (by omega)
            omega
          unfold fillR at hf
          rw [if_neg (by simpa using hn), if_pos hsh] at hf
          injection hf with b1 b2
          injection b2 with b2 b3
          subst b3
          rw [if_pos (by simp)] at hr
          injection hr with a1 a2
          injection a2 with a2 a3
          subst a1 a2 a3
          exact rread_d A c xs a w h hc hx hl qn qt qc tn hq hend.1 hend.2 _ hu rfl _ hn rfl n0 n1 (by omega) hs
        · have hsh : partE xs.length (tn + 4 + 2) (numV xs (tn + 4) 2) = .none := by
            unfold partE askE
            rw [if_neg (by omega), if_neg (by omega)]
            rfl
          have hd := fun W (hW : (Kd.int .u8).C W A xs.length xs) => rdata_all A c xs qn qt qc (numV xs tn 4) (tn + 4) W rr (if e2 = .none then rr else Rec.zero) en e2 hW hc hx hl hn hsh hf rfl
          rw [show tn + 4 + 2 = tn + 6 by omega] at hd
          by_cases h2 : e2 = .none
          · subst h2
            rw [if_neg (by simp)] at hr
            injection hr with a1 a2
            injection a2 with a2 a3
            subst a1 a2 a3
            rw [if_pos rfl] at hd
            obtain ⟨rn, rt, rc, rl, ⟨v6, b⟩, rtg, rd⟩ := rr
            have hen : en = tn + 6 + numV xs (tn + 4) 2 := by
              unfold fillR at hf
              rw [if_neg (by simpa using hn), if_neg (by simpa using hsh)] at hf
              dsimp only at hf
              split at hf
              · split at hf
                · rename_i h0; injection hf with b1 b2; injection b2 with b2 b3; exact absurd b3 h0
                · split at hf
                  · injection hf with b1 b2; injection b2 with b2 b3; cases b3
                  · injection hf with b1 b2; injection b2 with b2 b3; omega
              · split at hf
                · injection hf with b1 b2; injection b2 with b2 b3; omega
                · split at hf
                  · injection hf with b1 b2; injection b2 with b2 b3; cases b3
                  · injection hf with b1 b2; injection b2 with b2 b3; omega
            rw [hen]
            exact rread_f A c xs a w h hc hx hl qn qt qc tn hq hend.1 hend.2 _ hu rfl _ hn rfl n0 n1 (by omega) hs rn rt rc rl v6 b rtg rd hd
          · rw [if_pos h2] at hr
            injection hr with a1 a2
            injection a2 with a2 a3
            subst a1 a2 a3
            rw [if_neg h2] at hd
            exact rread_e A c xs a w h hc hx hl qn qt qc tn hq hend.1 hend.2 _ hu rfl _ hn rfl n0 n1 (by omega) hs [] 0 0 0 false (fun _ => 0) [] [] e2 (num_ne hnf h2) hd
      · unfold fillR at hf
        rw [if_pos hn] at hf
        injection hf with b1 b2
        injection b2 with b2 b3
        subst b3
        rw [if_pos hn] at hr
        injection hr with a1 a2
        injection a2 with a2 a3
        subst a1 a2 a3
        exact rread_c A c xs a w h hc hx hl qn qt qc tn hq hend.1 hend.2 _ hu rfl _ _ rfl rfl (num_ne (partE_cases _ _ _) hn)
end Go.Proofs.YtlkneoednkhleaaGreatDoor
