/-
  Package name: Read, by its contract.
-/
import Derived.Test.YtlkneoednkhleaaGreatDoorYNameE
import Derived.Deep.RegionWith
import Derived.Deep.LoopGhost
namespace Go.Proofs.YtlkneoednkhleaaGreatDoor
open Go.RowKit Go.Proofs.YtlkneoednkhleaaGreatDoorW.PrintWords
set_option linter.unusedVariables false
set_option linter.unusedSimpArgs false
set_option maxRecDepth 100000
set_option maxHeartbeats 1000000

/-- Labels, with dots between. -/
def nameOf (ls : List L) : L := Lib.join ls [46]
/-- Read, from a place on: the name, where it ends, why there is none. -/
def readF : Nat → List Int → Int → Int → Int → List L → L × Int × Er
  | 0, _, _, _, _, _ => ([], 0, .none)
  | k + 1, xs, a, b, e, ls =>
    if (xs.length : Int) ≤ a then ([], 0, .fault a 3)
    else if xs.getD a.toNat 0 = 0 then (nameOf ls, if e < 0 then a + 1 else e, .none)
    else if xs.getD a.toNat 0 ≤ 63 then
      if readE xs a (xs.getD a.toNat 0) ls = .none then readF k xs (a + 1 + xs.getD a.toNat 0) b e (ls ++ [lab xs a (xs.getD a.toNat 0)]) else ([], 0, readE xs a (xs.getD a.toNat 0) ls)
    else if 192 ≤ xs.getD a.toNat 0 then
      if leapE xs a b = .none then readF k xs (leapTo xs a) (leapTo xs a) (if e < 0 then a + 2 else e) ls else ([], 0, leapE xs a b)
    else ([], 0, .fault a 12)
/-- Rounds enough. -/
def readK (b : Int) (ls : List L) : Nat := b.toNat * 300 + (300 - sizeOf_ ls)
def readN (xs : List Int) (a : Int) : L × Int × Er := if a < 0 then ([], 0, .code 1) else readF (a.toNat * 300 + 301) xs a a (-1) []

theorem readE_cases (xs : List Int) (a n : Int) (ls : List L) : readE xs a n ls = .none ∨ ∃ c, readE xs a n ls = .fault a c := by
  unfold readE
  split
  · exact .inr ⟨_, rfl⟩
  · split
    · exact .inr ⟨_, rfl⟩
    · split
      · exact .inr ⟨_, rfl⟩
      · exact .inl rfl
theorem readE_size (xs : List Int) (a n : Int) (ls : List L) (h : readE xs a n ls = .none) : sizeOf_ (ls ++ [lab xs a n]) ≤ 255 := by
  unfold readE at h
  split at h
  · cases h
  · split at h
    · cases h
    · split at h
      · cases h
      · omega
theorem leapE_cases (xs : List Int) (a b : Int) : leapE xs a b = .none ∨ ∃ c, leapE xs a b = .fault a c := by
  unfold leapE
  split
  · exact .inr ⟨_, rfl⟩
  · split
    · exact .inr ⟨_, rfl⟩
    · exact .inl rfl
theorem leapE_below (xs : List Int) (a b : Int) (h : leapE xs a b = .none) : leapTo xs a < b := by
  unfold leapE at h
  split at h
  · cases h
  · split at h
    · cases h
    · omega
theorem leapTo_range (xs : List Int) (a : Int) : 0 ≤ leapTo xs a ∧ leapTo xs a < 16384 := by
  unfold leapTo
  omega
theorem join_len (ls : List L) : (nameOf ls).length ≤ sizeOf_ ls := by
  unfold nameOf
  cases ls with
  | nil => simp [Lib.join_nil]
  | cons x r =>
    rw [Lib.join_cons]
    have h : ∀ r : List L, (Lib.joinTail [46] r).length = (r.map fun s => 1 + s.length).sum := by
      intro r
      induction r with
      | nil => rfl
      | cons y r ih => simp [Lib.joinTail] at ih ⊢; omega
    simp [sizeOf_, h]
    omega
/-- strings.Join of labels. -/
theorem joinD_calls (B : Nat) (v : Value) (ls : List L) (w : World) (h : Kd.string.R 9 w B (fun _ => True) v (ls.map mkB)) (hz : sizeOf_ ls ≤ 255) :
    Calls Tryz.prog 76 #[v, .string dotB] w fun e w' => e = .returned (.string (mkB (nameOf ls))) ∧ Below w.heap.size w w' := by
  obtain ⟨A, c, rfl⟩ := Kd.R_slice h
  obtain ⟨hC, hc⟩ := R_C h
  have hl := len_sz ls
  by_cases h0 : ls = []
  · subst h0
    exact (Tryz.strings_Join_none A c dotB w).mono fun e w' ⟨he, hw⟩ => ⟨he, hw ▸ Below.refl _ _⟩
  · have hp : 0 < (ls.map mkB).length := by
      rw [List.length_map]
      exact List.length_pos_iff.2 h0
    obtain ⟨g, rfl, hg, -⟩ := R_form h hp
    have hjl := join_len ls
    have hcells : ∀ (j : Nat) x, (ls.map mkB)[j]? = some x → w.cell? ⟨g, 0 + j, none⟩ = some (.string x) := by
      intro j x hx
      have hj := (List.getElem?_eq_some_iff.1 hx).1
      obtain ⟨ad, he, hcell⟩ := at_natS hC j hj
      injection he with he
      subst he
      rw [add_plain] at hcell
      rw [Nat.zero_add, hcell, List.getD_eq_getElem?_getD, hx]
      rfl
    have hgl : g < w.heap.size := World.block_lt_of_cell? w _ (hcells 0 _ (List.getElem?_eq_getElem hp))
    refine (Tryz.strings_Join g 0 c (ls.map mkB) dotB w hcells hgl (by rw [List.length_map]; omega) hc ?_).mono fun e w' ⟨he, hw⟩ => ⟨?_, hw⟩
    · rw [List.map_map]
      show (Lib.join (ls.map id) [46]).length ≤ _
      rw [List.map_id]
      show (nameOf ls).length ≤ _
      omega
    · rw [he, List.map_map]
      show Ending.returned (.string (mkB (Lib.join (ls.map id) [46]))) = _
      rw [List.map_id]
      rfl

theorem read_neg (A : Option Addr) (n c : Nat) (a : Int) (w : World) (ha : a < 0) :
    Calls Tryz.prog 40 #[.slice A n c, .int .i64 a] w (Gives3 Kd.string (Kd.int .i64) erK (mkB []) 0 (.code 1) w) := by
  have b0 : decide (a < 0) = true := by simpa using ha
  go_enter Tryz.func40, Tryz.ntmps40
  go_wp2
  go_ret3
  exact ⟨_, _, _, rfl, rfl, rfl, er_code _ _ _ _, Below.refl _ _⟩

theorem read_calls (A : Option Addr) (c : Nat) (xs : List Int) (a : Int) (w : World) (nm : L) (en : Int) (er : Er) (h : (Kd.int .u8).C w A xs.length xs) (hx8 : Byts xs) (hc : xs.length ≤ c) (hcm : c ≤ 9223372036854775807) (hE : Env w) (hl : xs.length ≤ 140737488355328)
    (h0 : 0 ≤ a) (ha : a ≤ 9223372036854775807) (hr : readF (a.toNat * 300 + 301) xs a a (-1) [] = (nm, en, er)) :
    Calls Tryz.prog 40 #[.slice A xs.length c, .int .i64 a] w (Gives3 Kd.string (Kd.int .i64) erK (mkB nm) en er w) := by
  have b0 : decide (a < 0) = false := by simpa using h0
  have HC := Kp.mk h
  have HX := Kp.mk hx8
  have HE := Kp.mk hE
  have HR := Kp.mk hr
  obtain ⟨K, hK⟩ : ∃ K, a.toNat * 300 + 301 = K := ⟨_, rfl⟩
  rw [hK] at HR
  have HK := Kp.mk hK
  clear h hx8 hE hr hK
  go_enter Tryz.func40, Tryz.ntmps40
  go_wp2_with (fail)
  go_loopg [8] K (fun kq v8 wr => ∃ (a1 b1 e1 : Int) (v1 : Value) (ls : List L), Kp (Walk wr w.heap.size w.heap.size a1 b1 e1 v1 ls) ∧ Kp (Below w.heap.size w wr) ∧ Kp (readF kq xs a1 b1 e1 ls = (nm, en, er)) ∧ Kp (readK b1 ls < kq) ∧ Kp (0 ≤ a1 ∧ a1 ≤ 9223372036854775807 ∧ sizeOf_ ls ≤ 255 ∧ 0 ≤ b1))
  case atStart =>
    refine ⟨a, a, -1, .slice none 0 0, [], ⟨⟨Nat.le_refl _, ?_, Kd.R_nil _ _ _ _ _⟩⟩, ⟨(Below.refl _ _).alloc (Nat.le_refl _) _⟩, HR, ⟨?_⟩, ⟨h0, ha, by decide, h0⟩⟩
    · exact heap_new _ _
    · rw [← HK.out]
      simp [readK, sizeOf_]
  case round =>
    obtain ⟨a1, b1, e1, v1, ls, HW, HB, HRk, HM, HN⟩ := hrel
    cases gk with
    | zero => exact absurd HM.out (Nat.not_lt_zero _)
    | succ k1 =>
      have H := HRk.out
      rw [readF] at H
      clear HRk
      have hc0 := blk_cell HW.out.blk 0
      obtain ⟨hn0, hn1, hn2, hn3⟩ := HN.out
      by_cases h1 : (xs.length : Int) ≤ a1
      · rw [if_pos h1] at H
        obtain ⟨rfl, rfl, rfl⟩ : ([] : L) = nm ∧ (0 : Int) = en ∧ Er.fault a1 3 = er := by simpa using H
        have bq1 : decide ((xs.length : Int) ≤ a1) = true := by simpa using h1
        clear H
        go_wp2_with (fail)
        refine (wrap_calls _ _ _).mono ?_
        rintro e2 w2 ⟨rfl, rfl⟩
        go_wp2
        go_ret3
        exact ⟨_, _, _, rfl, rfl, rfl, er_fault trivial HB.out.size (heap_new _ _), HB.out.alloc HB.out.size _⟩
      · rw [if_neg h1] at H
        have bq1 : decide ((xs.length : Int) ≤ a1) = false := by simpa using h1
        obtain ⟨ad, rfl, hcell⟩ := at_nat (Kd.C_below HC.out HB.out) a1.toNat (by omega)
        have hxc := HX.out _ (getD_mem xs 0 a1.toNat (by omega))
        obtain ⟨x, hx⟩ : ∃ x, xs.getD a1.toNat 0 = x := ⟨_, rfl⟩
        rw [hx] at H hcell hxc
        have H' := Kp.mk H
        clear H hx
        by_cases h2 : x = 0
        · have H := H'.out
          rw [if_pos h2] at H
          subst h2
          by_cases hneg : e1 < 0
          · rw [if_pos hneg] at H
            obtain ⟨rfl, rfl, rfl⟩ : nameOf ls = nm ∧ a1 + 1 = en ∧ Er.none = er := by simpa using H
            have bn : decide (e1 < 0) = true := by simpa using hneg
            have hc2 := blk_cell HW.out.blk 2
            have hf2 := blk_frozen HW.out.blk 2
            have hk := blk_put HW.out.blk 2 (.int .i64 (a1 + 1)) (cs' := #[.int .i64 a1, .int .i64 b1, .int .i64 (a1 + 1), v1]) rfl
            have HRW := Kp.mk (Kd.R_set HW.out.row HW.out.blk (by decide) 2 (.int .i64 (a1 + 1)))
            have HKK := Kp.mk hk
            have g2 := blk_cell hk 2
            have g3 := blk_cell hk 3
            clear H H' hneg hk
            go_wp2_with (fail)
            go_region_with ((go_at_call 76; refine (joinD_calls w.heap.size _ ls _ (Kd.R_below HRW.out (Below.refl _ _).drew) hn2).mono ?_; rintro e2 w2 ⟨rfl, hb2⟩; have hd2 := blk_cell ((hb2.block _ (heap_lt HKK.out)).trans HKK.out) 2; have HB2 := Kp.mk hb2; clear hb2))
            all_goals
              go_wp2
              go_ret3
              exact ⟨_, _, _, rfl, rfl, rfl, er_none _ _ _, (HB.out.setCell (Nat.le_refl _) _).drew.trans (HB2.out.mono (by have := HB.out.size; simpa using this))⟩
          · rw [if_neg hneg] at H
            obtain ⟨rfl, rfl, rfl⟩ : nameOf ls = nm ∧ e1 = en ∧ Er.none = er := by simpa using H
            have bn : decide (e1 < 0) = false := by simpa using hneg
            have hc2 := blk_cell HW.out.blk 2
            have hc3 := blk_cell HW.out.blk 3
            clear H H' hneg
            go_wp2_with (fail)
            go_region_with ((go_at_call 76; refine (joinD_calls w.heap.size _ ls _ (Kd.R_below HW.out.row (Below.refl _ _).drew) hn2).mono ?_; rintro e2 w2 ⟨rfl, hb2⟩; have hd2 := blk_cell ((hb2.block _ (heap_lt HW.out.blk)).trans HW.out.blk) 2; have HB2 := Kp.mk hb2; clear hb2))
            all_goals
              go_wp2
              go_ret3
              exact ⟨_, _, _, rfl, rfl, rfl, er_none _ _ _, HB.out.drew.trans (HB2.out.mono (by have := HB.out.size; simpa using this))⟩
        · have be2 : (x == 0) = false := by simpa using h2
          have H := H'.out
          rw [if_neg h2] at H
          clear H'
          by_cases h3 : x ≤ 63
          · rw [if_pos h3] at H
            have b3 : decide (x ≤ 63) = true := by simpa using h3
            by_cases hs : (xs.length : Int) - x < a1 + 1
            · have hre : readE xs a1 x ls = .fault a1 3 := by unfold readE; rw [if_pos hs]
              rw [hre, if_neg (by intro h; cases h)] at H
              obtain ⟨rfl, rfl, rfl⟩ : ([] : L) = nm ∧ (0 : Int) = en ∧ Er.fault a1 3 = er := by simpa using H
              clear H hre
              go_wp2_with (fail)
              refine (read_short _ _ _ c xs a1 b1 e1 x v1 ls _ HW.out (Kd.C_below HC.out HB.out) hc hcm (HE.out.below HB.out) hl hn0 (by omega) (by omega) h3 HB.out.size hs).mono ?_
              rintro e2 w2 ⟨u, rfl, hm, hb⟩
              have HM2 := Kp.mk hm
              obtain ⟨p, rfl, -⟩ := er_open_fault (erK.K_of_M hm)
              have HB2 := Kp.mk hb
              clear hm hb
              go_wp2
              go_ret3
              exact ⟨_, _, _, rfl, rfl, rfl, HM2.out, below_step HB.out HB2.out⟩
            · go_wp2_with (fail)
              refine (read_there _ _ _ c xs a1 b1 e1 x v1 ls _ HW.out (Kd.C_below HC.out HB.out) HX.out hc hcm (HE.out.below HB.out) hl hn0 (by omega) (by omega) h3 HB.out.size (by omega) hn2).mono ?_
              rintro e2 w2 ⟨⟨u, rfl, hm⟩, hb, hsz, hw⟩
              have HM2 := Kp.mk hm
              have HB2 := Kp.mk (HB.out.trans hb)
              clear hm hb
              rcases readE_cases xs a1 x ls with hr | ⟨c1, hr⟩
              · rw [hr, if_pos rfl] at H
                have HR1 := Kp.mk H
                have HW1 := Kp.mk (hw hr)
                have HSZ := Kp.mk (readE_size xs a1 x ls hr)
                rw [hr] at HM2
                obtain rfl := er_open_none (erK.K_of_M HM2.out)
                clear H hw hr hsz HM2 hcell hc0
                go_wp2
                go_roundg k1
                case measure => omega
                case rel =>
                  obtain ⟨v', hw'⟩ := HW1.out
                  refine ⟨_, _, _, v', _, ⟨hw'⟩, HB2, HR1, ⟨?_⟩, ⟨by omega, by omega, HSZ.out, hn3⟩⟩
                  have h7 := HM.out
                  have h8 := HSZ.out
                  rw [sz_snoc] at h8
                  unfold readK at h7 ⊢
                  rw [sz_snoc]
                  omega
              · rw [hr, if_neg (by intro h; cases h)] at H
                obtain ⟨rfl, rfl, rfl⟩ : ([] : L) = nm ∧ (0 : Int) = en ∧ Er.fault a1 c1 = er := by simpa using H
                rw [hr] at HM2
                obtain ⟨p, rfl, -⟩ := er_open_fault (erK.K_of_M HM2.out)
                clear H hw hr hsz
                go_wp2
                go_ret3
                exact ⟨_, _, _, rfl, rfl, rfl, HM2.out, HB2.out⟩
          · rw [if_neg h3] at H
            have b3 : decide (x ≤ 63) = false := by simpa using h3
            by_cases h4 : 192 ≤ x
            · rw [if_pos h4] at H
              have b4 : decide (192 ≤ x) = true := by simpa using h4
              have HH := Kp.mk H
              clear H
              obtain ⟨e', he⟩ : ∃ e', (if e1 < 0 then a1 + 2 else e1) = e' := ⟨_, rfl⟩
              rw [he] at HH
              have HEE := Kp.mk he.symm
              clear he
              go_wp2_with (fail)
              refine (leap_calls _ _ _ c xs a1 b1 e1 e' v1 ls _ HW.out (Kd.C_below HC.out HB.out) HX.out hc hcm (HE.out.below HB.out) hl hn0 (by omega) HB.out.size HEE.out).mono ?_
              rintro e2 w2 ⟨⟨u, rfl, hm⟩, hb, hsz, hw⟩
              have HM2 := Kp.mk hm
              have HB2 := Kp.mk (HB.out.trans hb)
              have H := HH.out
              clear hm hb HH HEE
              rcases leapE_cases xs a1 b1 with hr | ⟨c1, hr⟩
              · rw [hr, if_pos rfl] at H
                have HR1 := Kp.mk H
                have HW1 := Kp.mk (hw hr)
                have HSZ := Kp.mk (leapE_below xs a1 b1 hr)
                have HTR := Kp.mk (leapTo_range xs a1)
                rw [hr] at HM2
                obtain rfl := er_open_none (erK.K_of_M HM2.out)
                clear H hw hr hsz HM2 hcell hc0
                go_wp2
                go_roundg k1
                case measure => omega
                case rel =>
                  obtain ⟨v', hw'⟩ := HW1.out
                  have h9 := HTR.out
                  refine ⟨_, _, _, v', _, ⟨hw'⟩, HB2, HR1, ⟨?_⟩, ⟨by omega, by omega, hn2, by omega⟩⟩
                  have h7 := HM.out
                  have h8 := HSZ.out
                  unfold readK at h7 ⊢
                  omega
              · rw [hr, if_neg (by intro h; cases h)] at H
                obtain ⟨rfl, rfl, rfl⟩ : ([] : L) = nm ∧ (0 : Int) = en ∧ Er.fault a1 c1 = er := by simpa using H
                rw [hr] at HM2
                obtain ⟨p, rfl, -⟩ := er_open_fault (erK.K_of_M HM2.out)
                clear H hw hr hsz
                go_wp2
                go_ret3
                exact ⟨_, _, _, rfl, rfl, rfl, HM2.out, HB2.out⟩
            · rw [if_neg h4] at H
              have b4 : decide (192 ≤ x) = false := by simpa using h4
              obtain ⟨rfl, rfl, rfl⟩ : ([] : L) = nm ∧ (0 : Int) = en ∧ Er.fault a1 12 = er := by simpa using H
              clear H
              go_wp2_with (fail)
              refine (wrap_calls _ _ _).mono ?_
              rintro e2 w2 ⟨rfl, rfl⟩
              go_wp2
              go_ret3
              exact ⟨_, _, _, rfl, rfl, rfl, er_fault trivial HB.out.size (heap_new _ _), HB.out.alloc HB.out.size _⟩
end Go.Proofs.YtlkneoednkhleaaGreatDoor
