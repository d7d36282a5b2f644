/-
  Several texts of this seat in one: RtA, RtB, RtC.
-/
import Derived.Test.YtlkneoednkhleaaGreatDoorYGr
import Derived.Test.YtlkneoednkhleaaGreatDoorYRefQ
import Derived.Test.YtlkneoednkhleaaGreatDoorYGs
import Derived.Test.YtlkneoednkhleaaGreatDoorYSame
import Derived.Test.YtlkneoednkhleaaGreatDoorYApp
import Derived.Test.YtlkneoednkhleaaGreatDoorYGt
namespace Go.Proofs.YtlkneoednkhleaaGreatDoor
open Go.RowKit Go.Proofs.YtlkneoednkhleaaGreatDoorW.PrintWords Go.Proofs.YtlkneoednkhleaaGreatDoor.P
set_option linter.unusedVariables false
set_option linter.unusedSimpArgs false
set_option maxRecDepth 100000
set_option maxHeartbeats 1000000

theorem failT_num (e : Er) : (failT e).1 = e.num := by cases e <;> rfl
theorem part_le {len a n : Int} (hn : 0 < n) (h : partE len a n = .none) : 0 ≤ a ∧ a ≤ len - n := by
  obtain ⟨h1, -, h3⟩ := partE_none h
  exact ⟨h1, h3 hn⟩
theorem ref_need (k : Nat) (xs : List Int) (a n : Int) (hk : 1 ≤ k) (hn : n = 2 ∨ n = 4) (hl : xs.length ≤ 140737488355328) (ha : a ≤ 9223372036854775807) : stockaderef01_need.f k xs a n = some (failT (partE xs.length a n)) := by
  obtain ⟨k, rfl⟩ : ∃ j, k = j + 1 := ⟨k - 1, by omega⟩
  have hn0 : 0 < n := by omega
  unfold stockaderef01_need.f
  by_cases h0 : a < 0
  · rw [if_pos h0, stockaderef01_need.j0, if_pos rfl]
    have hp : partE xs.length a n = .code 1 := by unfold partE askE; rw [if_pos (.inl h0)]; rfl
    rw [hp]
    rfl
  · rw [if_neg h0, stockaderef01_need.j0, if_neg (by simp; omega), if_pos hn0]
    by_cases h1 : (xs.length : Int) < a
    · rw [if_pos h1]
      have hp : partE xs.length a n = .fault a 3 := partE_short (by omega) hn0 (by omega)
      rw [hp]
      rfl
    · rw [if_neg h1, w64 _ (by omega) (by omega)]
      by_cases h2 : (xs.length : Int) - a < n
      · rw [if_pos h2]
        have hp : partE xs.length a n = .fault a 3 := partE_short (by omega) hn0 (by omega)
        rw [hp]
        rfl
      · rw [if_neg h2]
        have hp : partE xs.length a n = .none := partE_ok (by omega) (by omega) (by omega)
        rw [hp]
        rfl
theorem num_val (xs : List Int) (a : Nat) (n : Nat) (hn : 0 < n) (h : a + n ≤ xs.length) : numV xs (a : Int) (n : Int) = be ((xs.drop a).take n) := by
  unfold numV
  rw [askE_ok (by omega) (by omega) (by omega), if_pos rfl, Int.toNat_natCast, Int.toNat_natCast]
theorem num_step (k : Nat) (xs : List Int) (a i : Nat) (n v c : Int) (hi : (i : Int) < n) (hl : xs.length ≤ 140737488355328) (h : a + i < xs.length) (hc : xs.getD (a + i) 0 = c) (hx : Byts xs) (h0 : 0 ≤ v) (h1 : v < 16777216) :
    stockaderef01_Num.l0 (k + 1) xs (a : Int) n v (i : Int) = stockaderef01_Num.l0 k xs (a : Int) n (v * 256 + c) ((i + 1 : Nat) : Int) := by
  have hb := hx _ (getD_mem xs 0 (a + i) h)
  rw [hc] at hb
  have w1 : wrap64 ((a : Int) + (i : Int)) = ((a + i : Nat) : Int) := by rw [w64 _ (by omega) (by omega)]; simp
  have w2 : wrap64 ((i : Int) + 1) = ((i + 1 : Nat) : Int) := by rw [w64 _ (by omega) (by omega)]; simp
  have w3 : bits .or .i64 (wrap64 (v * 256)) (wrap64 c) = v * 256 + c := by
    rw [w64 c (by omega) (by omega), w64 (v * 256) (by omega) (by omega)]
    exact bits_join .i64 32 (by decide) (fun n h0 h1 => IntWalk.i64_in n (by omega)) 8 (v * 256) c (by omega) (by omega) (by omega) (by omega) (by omega) (by omega)
  rw [stockaderef01_Num.l0, if_pos hi, w1, if_pos (by omega), if_pos (by omega), rd_nat, hc, w3, w2]
theorem ref_num4 (k : Nat) (xs : List Int) (a : Nat) (hk : 5 ≤ k) (ha : a + 3 < xs.length) (hl : xs.length ≤ 140737488355328) (hx : Byts xs) :
    stockaderef01_Num.f k xs (a : Int) 4 = some (be ((xs.drop a).take 4)) := by
  obtain ⟨k, rfl⟩ : ∃ j, k = j + 1 + 1 + 1 + 1 + 1 := ⟨k - 5, by omega⟩
  have hd : xs.drop a = xs.getD a 0 :: xs.getD (a + 1) 0 :: xs.getD (a + 2) 0 :: xs.getD (a + 3) 0 :: xs.drop (a + 4) := by
    rw [List.drop_eq_getElem_cons (by omega), List.drop_eq_getElem_cons (by omega), List.drop_eq_getElem_cons (by omega), List.drop_eq_getElem_cons (by omega)]
    simp [List.getD_eq_getElem?_getD, show a < xs.length by omega, show a + 1 < xs.length by omega, show a + 2 < xs.length by omega, ha]
  have c0 := hx _ (getD_mem xs 0 a (by omega))
  have c1 := hx _ (getD_mem xs 0 (a + 1) (by omega))
  have c2 := hx _ (getD_mem xs 0 (a + 2) (by omega))
  rw [hd]
  clear hd
  obtain ⟨x, hx0⟩ : ∃ x, xs.getD a 0 = x := ⟨_, rfl⟩
  obtain ⟨y, hx1⟩ : ∃ x, xs.getD (a + 1) 0 = x := ⟨_, rfl⟩
  obtain ⟨z, hx2⟩ : ∃ x, xs.getD (a + 2) 0 = x := ⟨_, rfl⟩
  obtain ⟨u, hx3⟩ : ∃ x, xs.getD (a + 3) 0 = x := ⟨_, rfl⟩
  rw [hx0] at c0
  rw [hx1] at c1
  rw [hx2] at c2
  unfold stockaderef01_Num.f
  rw [hx0, hx1, hx2, hx3]
  have s0 := num_step (k + 1 + 1 + 1 + 1) xs a 0 4 0 x (by decide) hl (by omega) hx0 hx (by decide) (by decide)
  have s1 := num_step (k + 1 + 1 + 1) xs a 1 4 (0 * 256 + x) y (by decide) hl (by omega) hx1 hx (by omega) (by omega)
  have s2 := num_step (k + 1 + 1) xs a 2 4 ((0 * 256 + x) * 256 + y) z (by decide) hl (by omega) hx2 hx (by omega) (by omega)
  have s3 := num_step (k + 1) xs a 3 4 (((0 * 256 + x) * 256 + y) * 256 + z) u (by decide) hl ha hx3 hx (by omega) (by omega)
  have s4 : stockaderef01_Num.l0 (k + 1) xs (a : Int) 4 ((((0 * 256 + x) * 256 + y) * 256 + z) * 256 + u) ((3 + 1 : Nat) : Int) = some ((((0 * 256 + x) * 256 + y) * 256 + z) * 256 + u) := by
    rw [stockaderef01_Num.l0, if_neg (by decide)]
  have e0 : ((0 : Nat) : Int) = 0 := rfl
  rw [e0] at s0
  rw [s0, s1, s2, s3, s4]
  simp [be]
theorem ref_u16 (k : Nat) (xs : List Int) (a : Int) (hk : 3 ≤ k) (hx : Byts xs) (hl : xs.length ≤ 140737488355328) (ha : a ≤ 9223372036854775807) :
    stockaderef01_U16.f k xs a = some (numV xs a 2, failT (partE xs.length a 2)) := by
  unfold stockaderef01_U16.f
  rw [ref_need k xs a 2 (by omega) (.inl rfl) hl ha, Option.bind_some]
  by_cases he : partE xs.length a 2 = .none
  · obtain ⟨h0, h1⟩ := part_le (by decide) he
    obtain ⟨m, rfl⟩ := Int.eq_ofNat_of_zero_le h0
    rw [he, if_pos (show (failT Er.none).1 = 0 from rfl), ref_num2 k xs m hk (by omega) hl hx, Option.bind_some]
    have := num_val xs m 2 (by decide) (by omega)
    rw [show ((2 : Nat) : Int) = 2 from rfl] at this
    rw [this]
  · have hn : (failT (partE xs.length a 2)).1 ≠ 0 := by
      rw [failT_num]
      exact (partE_cases xs.length a 2).resolve_left he
    rw [if_neg hn]
    have hv : numV xs a 2 = 0 := by
      unfold numV
      rw [if_neg]
      intro h
      apply he
      unfold partE
      rw [h]
      rfl
    rw [hv]
theorem ref_u32 (k : Nat) (xs : List Int) (a : Int) (hk : 5 ≤ k) (hx : Byts xs) (hl : xs.length ≤ 140737488355328) (ha : a ≤ 9223372036854775807) :
    stockaderef01_U32.f k xs a = some (numV xs a 4, failT (partE xs.length a 4)) := by
  unfold stockaderef01_U32.f
  rw [ref_need k xs a 4 (by omega) (.inr rfl) hl ha, Option.bind_some]
  by_cases he : partE xs.length a 4 = .none
  · obtain ⟨h0, h1⟩ := part_le (by decide) he
    obtain ⟨m, rfl⟩ := Int.eq_ofNat_of_zero_le h0
    have hr := num_range xs (m : Int) 4 hx (.inr rfl)
    have := num_val xs m 4 (by decide) (by omega)
    rw [show ((4 : Nat) : Int) = 4 from rfl] at this
    rw [he, if_pos (show (failT Er.none).1 = 0 from rfl), ref_num4 k xs m hk (by omega) hl hx, Option.bind_some, ← this, Int.emod_eq_of_lt hr.1 (by omega)]
  · have hn : (failT (partE xs.length a 4)).1 ≠ 0 := by
      rw [failT_num]
      exact (partE_cases xs.length a 4).resolve_left he
    rw [if_neg hn]
    have hv : numV xs a 4 = 0 := by
      unfold numV
      rw [if_neg]
      intro h
      apply he
      unfold partE
      rw [h]
      rfl
    rw [hv]
theorem readE_numR (xs : List Int) (a n : Int) (ls : List L) : readE xs a n ls = .none ∨ (readE xs a n ls).num ≠ 0 := by
  unfold readE
  split
  · exact .inr (by simp [Er.num])
  · split
    · exact .inr (by simp [Er.num])
    · split
      · exact .inr (by simp [Er.num])
      · exact .inl rfl
theorem leapE_numR (xs : List Int) (a b : Int) : leapE xs a b = .none ∨ (leapE xs a b).num ≠ 0 := by
  unfold leapE
  split
  · exact .inr (by simp [Er.num])
  · split
    · exact .inr (by simp [Er.num])
    · exact .inl rfl
theorem readF_numR (k : Nat) (xs : List Int) (a b e : Int) (ls : List L) : (readF k xs a b e ls).2.2 = .none ∨ (readF k xs a b e ls).2.2.num ≠ 0 := by
  induction k generalizing a b e ls with
  | zero => exact .inl rfl
  | succ k ih =>
    rw [readF]
    split
    · exact .inr (by simp [Er.num])
    · split
      · exact .inl rfl
      · split
        · split
          · exact ih ..
          · exact readE_numR ..
        · split
          · split
            · exact ih ..
            · exact leapE_numR ..
          · exact .inr (by simp [Er.num])
/-- A name, as it is read: enough fuel for any. -/
theorem ref_readN (xs : List Int) (hx : Byts xs) (hl : xs.length ≤ 1000000) (a : Int) (nm : L) (en : Int) (er : Er) (hr : readN xs a = (nm, en, er)) : stockaderef12_Read.f (a.toNat * 300 + 371) xs a = some (mkB nm, en, failT er) := by
  unfold readN at hr
  split at hr
  · rename_i h
    injection hr with h1 h2
    injection h2 with h2 h3
    subst h1 h2 h3
    exact ref_read_neg xs a _ h
  · rename_i h
    obtain ⟨m, rfl⟩ := Int.eq_ofNat_of_zero_le (show 0 ≤ a by omega)
    exact ref_read xs hx hl m nm en er hr
theorem ref_qu (xs : List Int) (hx : Byts xs) (hl : xs.length ≤ 1000000) (a : Int) (q : Qu) (tn : Int) (er : Er) (hr : quR xs a = (q, tn, er)) :
    stockaderef12_ReadQuestion.f (a.toNat * 300 + 371) xs a = some (mkB q.name, q.typ, q.cls, tn, failT er) := by
  obtain ⟨nm, en, e1, hn⟩ : ∃ nm en e1, readN xs a = (nm, en, e1) := ⟨_, _, _, rfl⟩
  have hend := readN_end xs a hx
  rw [hn] at hend
  dsimp only at hend
  have u1 := ref_u16 (a.toNat * 300 + 371) xs en (by omega) hx (by omega) (by omega)
  have u2 := ref_u16 (a.toNat * 300 + 371) xs (en + 2) (by omega) hx (by omega) (by omega)
  unfold stockaderef12_ReadQuestion.f
  rw [ref_readN xs hx hl a nm en e1 hn, Option.bind_some]
  unfold quR at hr
  rw [hn] at hr
  dsimp only at hr ⊢
  by_cases h1 : e1 = .none
  · subst h1
    rw [if_neg (by simp)] at hr
    rw [if_pos (show (failT Er.none).1 = 0 from rfl), u1, Option.bind_some]
    dsimp only
    by_cases h2 : partE xs.length en 2 = .none
    · rw [if_neg (by simpa using h2)] at hr
      rw [h2, if_pos (show (failT Er.none).1 = 0 from rfl), w64 _ (by omega) (by omega), u2, Option.bind_some]
      dsimp only
      by_cases h3 : partE xs.length (en + 2) 2 = .none
      · rw [if_neg (by simpa using h3)] at hr
        injection hr with a1 a2
        injection a2 with a2 a3
        subst a1 a2 a3
        rw [h3, if_pos (show (failT Er.none).1 = 0 from rfl), w64 _ (by omega) (by omega)]
      · rw [if_pos h3] at hr
        injection hr with a1 a2
        injection a2 with a2 a3
        subst a1 a2 a3
        rw [if_neg (by rw [failT_num]; exact (partE_cases _ _ _).resolve_left h3)]
        rfl
    · rw [if_pos h2] at hr
      injection hr with a1 a2
      injection a2 with a2 a3
      subst a1 a2 a3
      rw [if_neg (by rw [failT_num]; exact (partE_cases _ _ _).resolve_left h2)]
      rfl
  · rw [if_pos h1] at hr
    injection hr with a1 a2
    injection a2 with a2 a3
    subst a1 a2 a3
    have hnz : (failT e1).1 ≠ 0 := by
      rw [failT_num]
      have := readF_numR (a.toNat * 300 + 301) xs a a (-1) []
      unfold readN at hn
      split at hn
      · injection hn with b1 b2
        injection b2 with b2 b3
        rw [← b3]
        decide
      · rw [hn] at this
        exact this.resolve_left h1
    rw [if_neg hnz]
    rfl
theorem failV_T (e : Er) : failV e = .agg #[.int .i64 (failT e).1, .int .i64 (failT e).2.1, .bool (failT e).2.2] := by cases e <;> rfl
theorem rqu_calls (A : Option Addr) (c : Nat) (xs : List Int) (a : Int) (w : World) (q : Qu) (tn : Int) (er : Er) (h : (Kd.int .u8).C w A xs.length xs) (hc : xs.length ≤ c) (hx : Byts xs) (hl : xs.length ≤ 1000000) (hr : quR xs a = (q, tn, er)) :
    Calls Tryz.prog 12 #[.slice A xs.length c, .int .i64 a] w fun e w' => e = .returned (.tuple #[.agg #[.string (mkB q.name), .int .i64 q.typ, .int .i64 q.cls],   .int .i64 tn, failV er]) ∧ Below w.heap.size w w' := by
  have := stockaderef12_ReadQuestion.calls _ A c xs a _ _ _ _ _ _ _ w h hc (ref_qu xs hx hl a q tn er hr)
  rw [failV_T]
  exact this
theorem ru16_calls (A : Option Addr) (c : Nat) (xs : List Int) (a : Int) (w : World) (h : (Kd.int .u8).C w A xs.length xs) (hc : xs.length ≤ c) (hx : Byts xs) (hl : xs.length ≤ 1000000) (ha : a ≤ 9223372036854775807) :
    Calls Tryz.prog 43 #[.slice A xs.length c, .int .i64 a] w fun e w' => e = .returned (.tuple #[.int .i64 (numV xs a 2), failV (partE xs.length a 2)]) ∧ Below w.heap.size w w' := by
  have := stockaderef01_U16.calls _ A c xs a _ _ _ _ w h hc (ref_u16 3 xs a (by omega) hx (by omega) ha)
  rw [failV_T]
  exact this
theorem ru32_calls (A : Option Addr) (c : Nat) (xs : List Int) (a : Int) (w : World) (h : (Kd.int .u8).C w A xs.length xs) (hc : xs.length ≤ c) (hx : Byts xs) (hl : xs.length ≤ 1000000) (ha : a ≤ 9223372036854775807) :
    Calls Tryz.prog 46 #[.slice A xs.length c, .int .i64 a] w fun e w' => e = .returned (.tuple #[.int .u32 (numV xs a 4), failV (partE xs.length a 4)]) ∧ Below w.heap.size w w' := by
  have := stockaderef01_U32.calls _ A c xs a _ _ _ _ w h hc (ref_u32 5 xs a (by omega) hx (by omega) ha)
  rw [failV_T]
  exact this
end Go.Proofs.YtlkneoednkhleaaGreatDoor

namespace Go.Proofs.YtlkneoednkhleaaGreatDoor
open Go.RowKit Go.Proofs.YtlkneoednkhleaaGreatDoorW.PrintWords
set_option linter.unusedVariables false
set_option linter.unusedSimpArgs false
set_option maxRecDepth 100000
set_option maxHeartbeats 2000000

theorem rsize_calls (a : Ad) (w : World) : Calls Tryz.prog 53 #[.agg #[.bool a.v6, .int .u8 (a.b 0), .int .u8 (a.b 1), .int .u8 (a.b 2), .int .u8 (a.b 3), .int .u8 (a.b 4), .int .u8 (a.b 5), .int .u8 (a.b 6), .int .u8 (a.b 7), .int .u8 (a.b 8), .int .u8 (a.b 9), .int .u8 (a.b 10), .int .u8 (a.b 11), .int .u8 (a.b 12), .int .u8 (a.b 13), .int .u8 (a.b 14), .int .u8 (a.b 15)]] w fun e w' => e = .returned (.int .i64 (if a.v6 then 128 else 32)) ∧ Below w.heap.size w w' := by
  obtain ⟨v, b⟩ := a
  have HB := Kp.mk ((Below.refl w.heap.size w).alloc (Nat.le_refl _) (.cells #[.bool v, .int .u8 (b 0), .int .u8 (b 1), .int .u8 (b 2), .int .u8 (b 3), .int .u8 (b 4), .int .u8 (b 5), .int .u8 (b 6), .int .u8 (b 7), .int .u8 (b 8), .int .u8 (b 9), .int .u8 (b 10), .int .u8 (b 11), .int .u8 (b 12), .int .u8 (b 13), .int .u8 (b 14), .int .u8 (b 15)] 26))
  dsimp only
  go_enter Tryz.func53, Tryz.ntmps53
  cases v
  · go_wp2
    go_ret
    exact ⟨rfl, HB.out⟩
  · go_wp2
    go_ret
    exact ⟨rfl, HB.out⟩
theorem cell_ad (v : Bool) (b : Nat → Int) : ∀ k, k < 16 → (#[.bool v, .int .u8 (b 0), .int .u8 (b 1), .int .u8 (b 2), .int .u8 (b 3), .int .u8 (b 4), .int .u8 (b 5), .int .u8 (b 6), .int .u8 (b 7), .int .u8 (b 8), .int .u8 (b 9), .int .u8 (b 10), .int .u8 (b 11), .int .u8 (b 12), .int .u8 (b 13), .int .u8 (b 14), .int .u8 (b 15)] : Array Value)[1 + k]? = some (.int .u8 (b k)) := by
  intro k hk
  match k, hk with
  | 0, _ => rfl
  | 1, _ => rfl
  | 2, _ => rfl
  | 3, _ => rfl
  | 4, _ => rfl
  | 5, _ => rfl
  | 6, _ => rfl
  | 7, _ => rfl
  | 8, _ => rfl
  | 9, _ => rfl
  | 10, _ => rfl
  | 11, _ => rfl
  | 12, _ => rfl
  | 13, _ => rfl
  | 14, _ => rfl
  | 15, _ => rfl
  | n + 16, h => exact absurd h (by omega)
theorem right_zero (b : Nat → Int) (h : ∀ j, 4 ≤ j → j < 16 → b j = 0) : Ad.right ⟨false, b⟩ = true := by
  have e : (Ad.l ⟨false, b⟩).drop 4 = [b 4, b 5, b 6, b 7, b 8, b 9, b 10, b 11, b 12, b 13, b 14, b 15] := rfl
  unfold Ad.right
  rw [e, h 4 (by decide) (by decide), h 5 (by decide) (by decide), h 6 (by decide) (by decide), h 7 (by decide) (by decide), h 8 (by decide) (by decide), h 9 (by decide) (by decide), h 10 (by decide) (by decide), h 11 (by decide) (by decide), h 12 (by decide) (by decide), h 13 (by decide) (by decide), h 14 (by decide) (by decide), h 15 (by decide) (by decide)]
  rfl
theorem right_some (b : Nat → Int) (k : Nat) (h4 : 4 ≤ k) (hk : k < 16) (hb : b k ≠ 0) : Ad.right ⟨false, b⟩ = false := by
  have e : (Ad.l ⟨false, b⟩).drop 4 = [b 4, b 5, b 6, b 7, b 8, b 9, b 10, b 11, b 12, b 13, b 14, b 15] := rfl
  have hm : b k ∈ [b 4, b 5, b 6, b 7, b 8, b 9, b 10, b 11, b 12, b 13, b 14, b 15] := by
    match k, h4, hk with
    | 4, _, _ => simp
    | 5, _, _ => simp
    | 6, _, _ => simp
    | 7, _, _ => simp
    | 8, _, _ => simp
    | 9, _, _ => simp
    | 10, _, _ => simp
    | 11, _, _ => simp
    | 12, _, _ => simp
    | 13, _, _ => simp
    | 14, _, _ => simp
    | 15, _, _ => simp
    | n + 16, _, h => exact absurd h (by omega)
  unfold Ad.right
  rw [e]
  have : ([b 4, b 5, b 6, b 7, b 8, b 9, b 10, b 11, b 12, b 13, b 14, b 15].any nzB) = true := List.any_eq_true.2 ⟨b k, hm, by simpa [nzB] using hb⟩
  rw [this]
  rfl
theorem rad_right (a : Ad) (w : World) : Calls Tryz.prog 63 #[.agg #[.bool a.v6, .int .u8 (a.b 0), .int .u8 (a.b 1), .int .u8 (a.b 2), .int .u8 (a.b 3), .int .u8 (a.b 4), .int .u8 (a.b 5), .int .u8 (a.b 6), .int .u8 (a.b 7), .int .u8 (a.b 8), .int .u8 (a.b 9), .int .u8 (a.b 10), .int .u8 (a.b 11), .int .u8 (a.b 12), .int .u8 (a.b 13), .int .u8 (a.b 14), .int .u8 (a.b 15)]] w fun e w' => e = .returned (.bool a.right) ∧ Below w.heap.size w w' := by
  obtain ⟨v, b⟩ := a
  dsimp only
  have HB0 := Kp.mk ((Below.refl w.heap.size w).alloc (Nat.le_refl _) (.cells #[.bool v, .int .u8 (b 0), .int .u8 (b 1), .int .u8 (b 2), .int .u8 (b 3), .int .u8 (b 4), .int .u8 (b 5), .int .u8 (b 6), .int .u8 (b 7), .int .u8 (b 8), .int .u8 (b 9), .int .u8 (b 10), .int .u8 (b 11), .int .u8 (b 12), .int .u8 (b 13), .int .u8 (b 14), .int .u8 (b 15)] 26))
  have HG0 := Kp.mk (heap_new w (.cells #[.bool v, .int .u8 (b 0), .int .u8 (b 1), .int .u8 (b 2), .int .u8 (b 3), .int .u8 (b 4), .int .u8 (b 5), .int .u8 (b 6), .int .u8 (b 7), .int .u8 (b 8), .int .u8 (b 9), .int .u8 (b 10), .int .u8 (b 11), .int .u8 (b 12), .int .u8 (b 13), .int .u8 (b 14), .int .u8 (b 15)] 26))
  obtain ⟨r, hr⟩ : ∃ r, Ad.right ⟨v, b⟩ = r := ⟨_, rfl⟩
  rw [hr]
  have HR := Kp.mk hr
  clear hr
  go_enter Tryz.func63, Tryz.ntmps63
  go_wp2_with (fail)
  go_loopw [3] (fun i wr => ∃ k : Nat, 4 ≤ k ∧ k ≤ 16 ∧ i = .int .i64 k ∧ Kp (v = true ∨ ∀ j, 4 ≤ j → j < k → b j = 0) ∧ Kp (Below w.heap.size w wr ∧ wr.heap[w.heap.size]? = some (.cells #[.bool v, .int .u8 (b 0), .int .u8 (b 1), .int .u8 (b 2), .int .u8 (b 3), .int .u8 (b 4), .int .u8 (b 5), .int .u8 (b 6), .int .u8 (b 7), .int .u8 (b 8), .int .u8 (b 9), .int .u8 (b 10), .int .u8 (b 11), .int .u8 (b 12), .int .u8 (b 13), .int .u8 (b 14), .int .u8 (b 15)] 26 (0, 0)))) (fun i _ => 16 - (intOf i).toNat)
  case atStart => exact ⟨4, by decide, by decide, rfl, ⟨.inr fun j h1 h2 => by omega⟩, ⟨HB0.out, HG0.out⟩⟩
  case round =>
    obtain ⟨k, hk4, hk, rfl, HZ, HW⟩ := hrel
    clear HB0 HG0
    by_cases hlt : k < 16
    · have b1 : decide ((k : Int) < 16) = true := by simp; omega
      have i0 : (0 : Int) ≤ (k : Int) := by omega
      have i1 : (k : Int) < 16 := by omega
      have d0 : wr.cell? ⟨w.heap.size, 0, none⟩ = some (.bool v) := blk_cell HW.out.2 0
      have dk : wr.cell? ⟨w.heap.size, 1 + k, none⟩ = some (.int .u8 (b k)) := (blk_cell HW.out.2 (1 + k)).trans (cell_ad v b k hlt)
      have HME : Kp (k + 1 ≤ 16 ∧ 16 - (k + 1) < 16 - k) := ⟨by omega⟩
      obtain ⟨x, hx⟩ : ∃ x, b k = x := ⟨_, rfl⟩
      rw [hx] at dk
      have HX := Kp.mk hx
      clear hx
      have HN : Kp (v = true ∨ x = 0 → v = true ∨ ∀ j, 4 ≤ j → j < k + 1 → b j = 0) := ⟨fun h => by
        rcases h with h | h
        · exact .inl h
        · rcases HZ.out with h2 | h2
          · exact .inl h2
          · refine .inr fun j j1 j2 => ?_
            by_cases e : j = k
            · rw [e, HX.out]; exact h
            · exact h2 j j1 (by omega)⟩
      cases v
      · by_cases hb : x = 0
        · subst hb
          have HN2 := Kp.mk (HN.out (.inr rfl))
          clear HN
          go_wp2
          refine ⟨⟨k + 1, by omega, HME.out.1, by go_num, (by first | exact HN2 | exact ⟨.inl trivial⟩), HW⟩, ?_⟩
          have hi1 : (intOf (Value.int .i64 ((k : Int) + 1))).toNat = k + 1 := by simp [intOf] <;> omega
          have hi2 : (intOf (Value.int .i64 (k : Int))).toNat = k := by simp [intOf]
          rw [hi1, hi2]
          exact HME.out.2
        · have bb : (x != 0) = true := by simpa using hb
          have bb2 : (x == 0) = false := by simpa using hb
          have bb3 : decide (x = 0) = false := by simpa using hb
          have hres := right_some b k hk4 hlt (by rw [HX.out]; exact hb)
          rw [HR.out] at hres
          subst hres
          clear HN
          go_wp2
          go_ret
          exact ⟨rfl, HW.out.1⟩
      · have HN2 := Kp.mk (HN.out (.inl rfl))
        clear HN
        go_wp2
        refine ⟨⟨k + 1, by omega, HME.out.1, by go_num, (by first | exact HN2 | exact ⟨.inl trivial⟩), HW⟩, ?_⟩
        have hi1 : (intOf (Value.int .i64 ((k : Int) + 1))).toNat = k + 1 := by simp [intOf] <;> omega
        have hi2 : (intOf (Value.int .i64 (k : Int))).toNat = k := by simp [intOf]
        rw [hi1, hi2]
        exact HME.out.2
    · obtain rfl : k = 16 := by omega
      have hres : r = true := by
        rw [← HR.out]
        rcases HZ.out with h | h
        · rw [h]; rfl
        · cases v
          · exact right_zero b h
          · rfl
      subst hres
      go_wp2
      go_ret
      exact ⟨rfl, HW.out.1⟩
end Go.Proofs.YtlkneoednkhleaaGreatDoor

namespace Go.Proofs.YtlkneoednkhleaaGreatDoor
open Go.RowKit Go.Proofs.YtlkneoednkhleaaGreatDoorW.PrintWords
set_option linter.unusedVariables false
set_option linter.unusedSimpArgs false
set_option maxRecDepth 100000
set_option maxHeartbeats 1000000

/-- A row of bytes of the call's own. -/
def GivesB (xs : List Int) (w : World) (e : Ending) (w' : World) : Prop :=
  ∃ v, e = .returned v ∧ (Kd.int .u8).R 5 w' w.heap.size (fun _ => True) v xs ∧ Below w.heap.size w w'
def putI2 : Nat → Int
  | 0 => 1
  | 1 => 0
  | _ => -1
def putO2 (xs : List Int) (v : Int) : Nat → List Int
  | 0 => xs
  | 1 => xs ++ [v / 256]
  | _ => xs ++ [v / 256, v % 256]
theorem rput2_calls (A : Option Addr) (c : Nat) (xs : List Int) (v : Int) (w : World) (h : (Kd.int .u8).C w A xs.length xs) (hc : xs.length ≤ c) (hl : xs.length ≤ 100000000) (h0 : 0 ≤ v) (h1 : v ≤ 65535) :
    Calls Tryz.prog 54 #[.slice A xs.length c, .int .i64 v, .int .i64 2] w (GivesB (xs ++ be16 v) w) := by
  have HC := Kp.mk h
  have HB0 := Kp.mk (Below.refl w.heap.size w)
  have HV := Kp.mk h0
  have HV1 := Kp.mk h1
  clear h h0 h1
  go_enter Tryz.func54, Tryz.ntmps54
  go_wp2_with (at_builtin; (with_reducible refine gate_builtin (b := .append) (xs := #[.const (.slice none 0 0), .tmp 9]) rfl ?_); go_must (refine app_bytes (w0 := w) (base := w.heap.size) (s := .const (.slice none 0 0)) (x := .tmp 9) (v := .slice none 0 0) rfl rfl [] xs A xs.length c rfl rfl (Kd.R_nil _ _ _ _ _) HC.out HB0.out (Nat.le_refl _) (by show 0 + xs.length ≤ _; omega) ?_))
  intro v1 w1 HR1 HB1 hs1
  have HR1' : Kp ((Kd.int .u8).R 5 w1 w.heap.size (fun _ => True) v1 xs) := ⟨by simpa using HR1.out⟩
  clear HR1
  go_wp2_with (fail)
  go_loopw [7, 8] (fun u i wr => ∃ k : Nat, k ≤ 2 ∧ i = .int .i64 (putI2 k) ∧ Kp (Below w.heap.size w wr) ∧ Kp ((Kd.int .u8).R 5 wr w.heap.size (fun _ => True) u (putO2 xs v k))) (fun _ i _ => (intOf i + 1).toNat)
  case atStart => exact ⟨0, by decide, rfl, HB1, HR1'⟩
  case round =>
    obtain ⟨k, hk, rfl, HW, HR⟩ := hrel
    clear HR1' HB1 hs1
    have hsz := HW.out.size
    match k, hk with
    | 0, _ =>
      have e : putI2 0 = 1 := rfl
      have HR1 : Kp ((Kd.int .u8).R 5 wr w.heap.size (fun _ => True) u7 (xs)) := HR
      rw [e]
      clear HR e
      go_wp2_with (at_builtin; (with_reducible refine gate_builtin (b := .append) (xs := #[.tmp 17, .tmp 24]) rfl ?_); go_must (refine app_byte (w0 := w) (base := w.heap.size) (s := .tmp 17) (x := .tmp 24) (v := u7) rfl rfl (xs) _ rfl rfl HR1.out HW.out hsz (by simp; omega) ?_))
      intro v2 w2 HR2 HW2 hs2
      go_wp2
      refine ⟨⟨1, by decide, rfl, HW2, ⟨?_⟩⟩, by decide⟩
      have hr := HR2.out
      have hb : v / 256 % 256 = v / 256 := by have := HV.out; have := HV1.out; omega
      rw [hb] at hr
      simpa [putO2] using hr
    | 1, _ =>
      have e : putI2 1 = 0 := rfl
      have HR1 : Kp ((Kd.int .u8).R 5 wr w.heap.size (fun _ => True) u7 (xs ++ [v / 256])) := HR
      rw [e]
      clear HR e
      go_wp2_with (at_builtin; (with_reducible refine gate_builtin (b := .append) (xs := #[.tmp 17, .tmp 24]) rfl ?_); go_must (refine app_byte (w0 := w) (base := w.heap.size) (s := .tmp 17) (x := .tmp 24) (v := u7) rfl rfl (xs ++ [v / 256]) _ rfl rfl HR1.out HW.out hsz (by simp; omega) ?_))
      intro v2 w2 HR2 HW2 hs2
      go_wp2
      refine ⟨⟨2, by decide, rfl, HW2, ⟨?_⟩⟩, by decide⟩
      have hr := HR2.out
      simpa [putO2] using hr
    | 2, _ =>
      have e : putI2 2 = -1 := rfl
      have HR1 : Kp ((Kd.int .u8).R 5 wr w.heap.size (fun _ => True) u7 (xs ++ be16 v)) := HR
      rw [e]
      clear HR e
      go_wp2
      go_ret
      exact ⟨_, rfl, HR1.out, HW.out⟩
def putI4 : Nat → Int
  | 0 => 3
  | 1 => 2
  | 2 => 1
  | 3 => 0
  | _ => -1
def putO4 (xs : List Int) (v : Int) : Nat → List Int
  | 0 => xs
  | 1 => xs ++ [v / 16777216]
  | 2 => xs ++ [v / 16777216, v / 65536 % 256]
  | 3 => xs ++ [v / 16777216, v / 65536 % 256, v / 256 % 256]
  | _ => xs ++ [v / 16777216, v / 65536 % 256, v / 256 % 256, v % 256]
theorem rput4_calls (A : Option Addr) (c : Nat) (xs : List Int) (v : Int) (w : World) (h : (Kd.int .u8).C w A xs.length xs) (hc : xs.length ≤ c) (hl : xs.length ≤ 100000000) (h0 : 0 ≤ v) (h1 : v ≤ 4294967295) :
    Calls Tryz.prog 54 #[.slice A xs.length c, .int .i64 v, .int .i64 4] w (GivesB (xs ++ be32 v) w) := by
  have HC := Kp.mk h
  have HB0 := Kp.mk (Below.refl w.heap.size w)
  have HV := Kp.mk h0
  have HV1 := Kp.mk h1
  clear h h0 h1
  go_enter Tryz.func54, Tryz.ntmps54
  go_wp2_with (at_builtin; (with_reducible refine gate_builtin (b := .append) (xs := #[.const (.slice none 0 0), .tmp 9]) rfl ?_); go_must (refine app_bytes (w0 := w) (base := w.heap.size) (s := .const (.slice none 0 0)) (x := .tmp 9) (v := .slice none 0 0) rfl rfl [] xs A xs.length c rfl rfl (Kd.R_nil _ _ _ _ _) HC.out HB0.out (Nat.le_refl _) (by show 0 + xs.length ≤ _; omega) ?_))
  intro v1 w1 HR1 HB1 hs1
  have HR1' : Kp ((Kd.int .u8).R 5 w1 w.heap.size (fun _ => True) v1 xs) := ⟨by simpa using HR1.out⟩
  clear HR1
  go_wp2_with (fail)
  go_loopw [7, 8] (fun u i wr => ∃ k : Nat, k ≤ 4 ∧ i = .int .i64 (putI4 k) ∧ Kp (Below w.heap.size w wr) ∧ Kp ((Kd.int .u8).R 5 wr w.heap.size (fun _ => True) u (putO4 xs v k))) (fun _ i _ => (intOf i + 1).toNat)
  case atStart => exact ⟨0, by decide, rfl, HB1, HR1'⟩
  case round =>
    obtain ⟨k, hk, rfl, HW, HR⟩ := hrel
    clear HR1' HB1 hs1
    have hsz := HW.out.size
    match k, hk with
    | 0, _ =>
      have e : putI4 0 = 3 := rfl
      have HR1 : Kp ((Kd.int .u8).R 5 wr w.heap.size (fun _ => True) u7 (xs)) := HR
      rw [e]
      clear HR e
      go_wp2_with (at_builtin; (with_reducible refine gate_builtin (b := .append) (xs := #[.tmp 17, .tmp 24]) rfl ?_); go_must (refine app_byte (w0 := w) (base := w.heap.size) (s := .tmp 17) (x := .tmp 24) (v := u7) rfl rfl (xs) _ rfl rfl HR1.out HW.out hsz (by simp; omega) ?_))
      intro v2 w2 HR2 HW2 hs2
      go_wp2
      refine ⟨⟨1, by decide, rfl, HW2, ⟨?_⟩⟩, by decide⟩
      have hr := HR2.out
      have hb : v / 16777216 % 256 = v / 16777216 := by have := HV.out; have := HV1.out; omega
      rw [hb] at hr
      simpa [putO4] using hr
    | 1, _ =>
      have e : putI4 1 = 2 := rfl
      have HR1 : Kp ((Kd.int .u8).R 5 wr w.heap.size (fun _ => True) u7 (xs ++ [v / 16777216])) := HR
      rw [e]
      clear HR e
      go_wp2_with (at_builtin; (with_reducible refine gate_builtin (b := .append) (xs := #[.tmp 17, .tmp 24]) rfl ?_); go_must (refine app_byte (w0 := w) (base := w.heap.size) (s := .tmp 17) (x := .tmp 24) (v := u7) rfl rfl (xs ++ [v / 16777216]) _ rfl rfl HR1.out HW.out hsz (by simp; omega) ?_))
      intro v2 w2 HR2 HW2 hs2
      go_wp2
      refine ⟨⟨2, by decide, rfl, HW2, ⟨?_⟩⟩, by decide⟩
      have hr := HR2.out
      simpa [putO4] using hr
    | 2, _ =>
      have e : putI4 2 = 1 := rfl
      have HR1 : Kp ((Kd.int .u8).R 5 wr w.heap.size (fun _ => True) u7 (xs ++ [v / 16777216, v / 65536 % 256])) := HR
      rw [e]
      clear HR e
      go_wp2_with (at_builtin; (with_reducible refine gate_builtin (b := .append) (xs := #[.tmp 17, .tmp 24]) rfl ?_); go_must (refine app_byte (w0 := w) (base := w.heap.size) (s := .tmp 17) (x := .tmp 24) (v := u7) rfl rfl (xs ++ [v / 16777216, v / 65536 % 256]) _ rfl rfl HR1.out HW.out hsz (by simp; omega) ?_))
      intro v2 w2 HR2 HW2 hs2
      go_wp2
      refine ⟨⟨3, by decide, rfl, HW2, ⟨?_⟩⟩, by decide⟩
      have hr := HR2.out
      simpa [putO4] using hr
    | 3, _ =>
      have e : putI4 3 = 0 := rfl
      have HR1 : Kp ((Kd.int .u8).R 5 wr w.heap.size (fun _ => True) u7 (xs ++ [v / 16777216, v / 65536 % 256, v / 256 % 256])) := HR
      rw [e]
      clear HR e
      go_wp2_with (at_builtin; (with_reducible refine gate_builtin (b := .append) (xs := #[.tmp 17, .tmp 24]) rfl ?_); go_must (refine app_byte (w0 := w) (base := w.heap.size) (s := .tmp 17) (x := .tmp 24) (v := u7) rfl rfl (xs ++ [v / 16777216, v / 65536 % 256, v / 256 % 256]) _ rfl rfl HR1.out HW.out hsz (by simp; omega) ?_))
      intro v2 w2 HR2 HW2 hs2
      go_wp2
      refine ⟨⟨4, by decide, rfl, HW2, ⟨?_⟩⟩, by decide⟩
      have hr := HR2.out
      simpa [putO4] using hr
    | 4, _ =>
      have e : putI4 4 = -1 := rfl
      have HR1 : Kp ((Kd.int .u8).R 5 wr w.heap.size (fun _ => True) u7 (xs ++ be32 v)) := HR
      rw [e]
      clear HR e
      go_wp2
      go_ret
      exact ⟨_, rfl, HR1.out, HW.out⟩
end Go.Proofs.YtlkneoednkhleaaGreatDoor
