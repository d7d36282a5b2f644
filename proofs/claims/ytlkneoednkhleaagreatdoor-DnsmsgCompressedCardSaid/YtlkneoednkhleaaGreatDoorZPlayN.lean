/-
  Names that a law makes out of any text: the walk.
-/
import Derived.Test.YtlkneoednkhleaaGreatDoorGt
namespace Go.Proofs.YtlkneoednkhleaaGreatDoor
open Go.RowKit Go.Proofs.YtlkneoednkhleaaGreatDoorW.PrintWords
set_option linter.unusedVariables false
set_option linter.unusedSimpArgs false
set_option maxRecDepth 100000
set_option maxHeartbeats 1000000

theorem last_is (o : L) (m : Nat) (hm : o.length = m + 1) : o.getLast? = some 46 ↔ (o.map nB).getD m 0 = 46 := by
  rw [List.getLast?_eq_getElem?, hm]
  have h : m < o.length := by omega
  have h1 : (o.map nB).getD m 0 = nB o[m] := by simp [List.getD_eq_getElem?_getD, h]
  rw [h1, show m + 1 - 1 = m by omega, List.getElem?_eq_getElem h]
  constructor
  · intro e; injection e with e; rw [e]; rfl
  · intro e
    congr 1
    apply UInt8.toNat_inj.1
    unfold nB at e
    exact Int.ofNat_inj.1 e
theorem byte_eq (b : UInt8) (h : ((b.toNat : Nat) : Int) = 46) : b = 46 := UInt8.toNat_inj.1 (Int.ofNat_inj.1 h)
theorem keep_no0 (b : UInt8) (h : ((b.toNat : Nat) : Int) = 46) : keepU [] b = false := by rw [byte_eq b h]; rfl
theorem keep_no1 (o : L) (b : UInt8) (h : ((b.toNat : Nat) : Int) = 46) (m : Nat) (hm : o.length = m + 1) (hx : (o.map nB).getD m 0 = 46) : keepU o b = false := by
  rw [byte_eq b h, keepU, if_pos rfl, (last_is o m hm).2 hx]; simp
theorem keep_yes1 (o : L) (b : UInt8) (h : ((b.toNat : Nat) : Int) = 46) (m : Nat) (hm : o.length = m + 1) (x : Int) (hx : (o.map nB).getD m 0 = x) (h46 : x ≠ 46) : keepU o b = true := by
  rw [byte_eq b h, keepU, if_pos rfl]
  have h0 : o.isEmpty = false := by cases o with | nil => simp at hm | cons _ _ => rfl
  have h1 : (o.getLast? != some 46) = true := by
    rw [bne_iff_ne]
    intro e
    exact h46 (hx.symm.trans ((last_is o m hm).1 e))
  rw [h0, h1]; rfl
theorem keep_bad (o : L) (b : UInt8) (h : ((b.toNat : Nat) : Int) ≠ 46) : keepU o b = !badB ((b.toNat : Nat) : Int) := by
  rw [keepU, if_neg (fun e => h (by rw [e]; rfl))]; rfl
theorem map_snoc (o : L) (b : UInt8) : o.map nB ++ [((b.toNat : Nat) : Int)] = (o ++ [b]).map nB := by simp [nB]
theorem str_map (o : L) : strOfNums (o.map nB) = mkB o := by
  unfold strOfNums mkB
  congr 2
  rw [List.map_map]
  conv => rhs; rw [← List.map_id o]
  apply List.map_congr_left
  intro b _
  simp [nB]
theorem str_take (o : L) (m : Nat) (hm : o.length = m + 1) (hx : (o.map nB).getD m 0 = 46) : strOfNums ((o.map nB).take m) = mkB (trimO o) := by
  rw [← List.map_take, str_map, trimO, if_pos ((last_is o m hm).2 hx), List.dropLast_eq_take, hm, Nat.add_sub_cancel]
theorem trim_no (o : L) (m : Nat) (hm : o.length = m + 1) (x : Int) (hx : (o.map nB).getD m 0 = x) (h46 : x ≠ 46) : trimO o = o := by
  rw [trimO, if_neg (fun e => h46 (hx.symm.trans ((last_is o m hm).1 e)))]
theorem playname_calls (s : ByteArray) (w : World) (hs : s.size ≤ 9223372036854775807) : Calls Tryz.prog 36 #[.string s] w fun e w' => e = .returned (.string (mkB (playN s.data.toList))) ∧ Below w.heap.size w w' := by
  obtain ⟨F, hF⟩ : ∃ F, playF s.data.toList [] = F := ⟨_, rfl⟩
  have hgood : GoodO F := hF ▸ play_good s.data.toList [] good_nil
  have hp : playN s.data.toList = trimO F := by rw [playN, hF]
  rw [hp]
  have HF := Kp.mk hF
  have hl60 := hgood.len
  clear hp hF hgood
  go_enter Tryz.func36, Tryz.ntmps36
  go_wp2_with (fail)
  go_loopw [3, 4] (fun v i wr => ∃ (k : Nat) (o : L), k ≤ s.size ∧ i = .int .i64 k ∧ Kp (playF (s.data.toList.drop k) o = F) ∧ o.length ≤ 60 ∧ Kp (Below w.heap.size w wr) ∧ Kp ((Kd.int .u8).R 5 wr w.heap.size (fun _ => True) v (o.map nB))) (fun _ i _ => s.size - (intOf i).toNat)
  case atStart => exact ⟨0, [], Nat.zero_le _, rfl, HF, by decide, ⟨Below.refl _ _⟩, ⟨Kd.R_nil _ _ _ _ _⟩⟩
  case round =>
    obtain ⟨k, o, hk, rfl, HK, ho, HW, HR⟩ := hrel
    obtain ⟨A, c, rfl⟩ := Kd.R_slice HR.out
    have hsz := HW.out.size
    have hol : (o.map nB).length = o.length := List.length_map ..
    have hC1 := (R_C HR.out).1
    rw [hol] at hC1 ⊢
    have HC := Kp.mk hC1
    clear hC1
    by_cases hlt : k < s.size
    · by_cases h6 : o.length < 60
      · have hdrop : s.data.toList.drop k = s[k] :: s.data.toList.drop (k + 1) := by
          rw [List.drop_eq_getElem_cons (by simpa using hlt)]; rfl
        have HK2 : Kp (playF (s.data.toList.drop (k + 1)) (if keepU o s[k] = true then o ++ [s[k]] else o) = F) := by
          have h := HK.out
          rw [hdrop, playF, if_pos h6] at h
          exact ⟨h⟩
        clear HK hdrop
        have hR1 := HR.out
        rw [hol] at hR1
        have HR1 := Kp.mk hR1
        clear hR1
        by_cases h46 : ((s[k].toNat : Nat) : Int) = 46
        · by_cases h0 : o = []
          · subst h0
            have hk0 := HK2.out
            rw [keep_no0 _ h46, if_neg (by decide)] at hk0
            have HK3 := Kp.mk hk0
            clear hk0 HK2
            simp only [List.map_nil, List.length_nil] at hol HC HR1 ⊢
            go_wp2
            exact ⟨⟨k + 1, [], by omega, by go_num, HK3, by decide, HW, HR1⟩, by simp [intOf]; omega⟩
          · obtain ⟨m, hm⟩ : ∃ m, o.length = m + 1 := ⟨o.length - 1, by have := List.length_pos_iff.2 h0; omega⟩
            rw [hm] at hol HC HR1 ⊢
            obtain ⟨ad, rfl, hcell⟩ := at_nat HC.out m (by omega)
            obtain ⟨x, hx⟩ : ∃ x, (o.map nB).getD m 0 = x := ⟨_, rfl⟩
            rw [hx] at hcell
            have hk0 := HK2.out
            by_cases hx46 : x = 46
            · subst hx46
              rw [keep_no1 o _ h46 m hm hx, if_neg (by decide)] at hk0
              have HK3 := Kp.mk hk0
              clear hk0 HK2 hx
              go_wp2
              exact ⟨⟨k + 1, o, by omega, by go_num, HK3, ho, HW, HR1⟩, by simp [intOf]; omega⟩
            · rw [keep_yes1 o _ h46 m hm x hx hx46, if_pos rfl] at hk0
              have HK3 := Kp.mk hk0
              have bx : (x != 46) = true := by simpa using hx46
              have hsn : o.map nB ++ [(46 : Int)] = (o ++ [s[k]]).map nB := by rw [← map_snoc, h46]
              have HSN := Kp.mk hsn
              clear hk0 HK2 hx hsn hx46
              go_wp2_with (at_builtin; with_reducible refine gate_builtin (b := .append) (xs := #[.tmp 58, .tmp 60]) rfl ?_; refine app_byte (w0 := w) (s := .tmp 58) (x := .tmp 60) rfl rfl _ _ rfl rfl HR1.out HW.out hsz (by rw [hol]; omega) ?_)
              intro v1 wa HR2 HW2 hs2
              rw [HSN.out] at HR2
              go_wp2
              exact ⟨⟨k + 1, o ++ [s[k]], by omega, by go_num, HK3, by rw [List.length_append]; simp; omega, HW2, HR2⟩, by simp [intOf]; omega⟩
        · by_cases hbad : badB ((s[k].toNat : Nat) : Int) = true
          · have hk0 := HK2.out
            rw [keep_bad o _ h46, hbad, if_neg (by decide)] at hk0
            have HK3 := Kp.mk hk0
            have HBD := Kp.mk hbad
            clear hk0 HK2 hbad
            have fin : ∀ u, u = Value.slice A o.length c → (∃ (k' : Nat) (o' : L), k' ≤ s.size ∧ Value.int .i64 ((k : Int) + 1) = .int .i64 k' ∧ Kp (playF (s.data.toList.drop k') o' = F) ∧ o'.length ≤ 60 ∧ Kp (Below w.heap.size w wr) ∧ Kp ((Kd.int .u8).R 5 wr w.heap.size (fun _ => True) u (o'.map nB))) ∧ s.size - (intOf (Value.int .i64 ((k : Int) + 1))).toNat < s.size - (intOf (Value.int .i64 (k : Int))).toNat := by
              rintro u rfl
              exact ⟨⟨k + 1, o, by omega, by go_num, HK3, ho, HW, HR1⟩, by simp [intOf]; omega⟩
            have FIN := Kp.mk fin
            clear fin
            by_cases c1 : 32 < ((s[k].toNat : Nat) : Int)
            · by_cases c2 : ((s[k].toNat : Nat) : Int) < 127
              · have c3 : 65 ≤ ((s[k].toNat : Nat) : Int) ∧ ((s[k].toNat : Nat) : Int) ≤ 90 := by
                  have := HBD.out
                  unfold badB at this
                  simp at this
                  omega
                obtain ⟨c3, c4⟩ := c3
                go_wp2
                exact FIN.out _ rfl
              · go_wp2
                exact FIN.out _ rfl
            · go_wp2
              exact FIN.out _ rfl
          · have hk0 := HK2.out
            rw [keep_bad o _ h46, eq_false_of_ne_true hbad, if_pos (by decide)] at hk0
            have HK3 := Kp.mk hk0
            have hbad2 : 32 < ((s[k].toNat : Nat) : Int) ∧ ((s[k].toNat : Nat) : Int) < 127 ∧ (((s[k].toNat : Nat) : Int) < 65 ∨ 90 < ((s[k].toNat : Nat) : Int)) := by
              unfold badB at hbad
              simp at hbad
              omega
            obtain ⟨c1, c2, c3⟩ := hbad2
            have hsn := map_snoc o s[k]
            have HSN := Kp.mk hsn
            clear hk0 HK2 hbad hsn
            by_cases c4 : ((s[k].toNat : Nat) : Int) < 65
            · go_wp2_with (at_builtin; with_reducible refine gate_builtin (b := .append) (xs := #[.tmp 58, .tmp 60]) rfl ?_; refine app_byte (w0 := w) (s := .tmp 58) (x := .tmp 60) rfl rfl _ _ rfl rfl HR1.out HW.out hsz (by rw [hol]; omega) ?_)
              intro v1 wa HR2 HW2 hs2
              rw [HSN.out] at HR2
              go_wp2
              exact ⟨⟨k + 1, o ++ [s[k]], by omega, by go_num, HK3, by rw [List.length_append]; simp; omega, HW2, HR2⟩, by simp [intOf]; omega⟩
            · have c5 : 90 < ((s[k].toNat : Nat) : Int) := by omega
              clear c3
              go_wp2_with (at_builtin; with_reducible refine gate_builtin (b := .append) (xs := #[.tmp 58, .tmp 60]) rfl ?_; refine app_byte (w0 := w) (s := .tmp 58) (x := .tmp 60) rfl rfl _ _ rfl rfl HR1.out HW.out hsz (by rw [hol]; omega) ?_)
              intro v1 wa HR2 HW2 hs2
              rw [HSN.out] at HR2
              go_wp2
              exact ⟨⟨k + 1, o ++ [s[k]], by omega, by go_num, HK3, by rw [List.length_append]; simp; omega, HW2, HR2⟩, by simp [intOf]; omega⟩
      · have hFo : F = o := by
          have h := HK.out
          rw [List.drop_eq_getElem_cons (by simpa using hlt), playF, if_neg h6] at h
          exact h.symm
        have b6 : decide ((o.length : Int) < 60) = false := by simp; omega
        clear HK
        subst hFo
        by_cases h0 : F = []
        · subst h0
          exact absurd (show ([] : L).length < 60 by decide) h6
        · obtain ⟨m, hm⟩ : ∃ m, F.length = m + 1 := ⟨F.length - 1, by have := List.length_pos_iff.2 h0; omega⟩
          rw [hm] at hol HC ⊢
          obtain ⟨ad, rfl, hcell⟩ := at_nat HC.out m (by omega)
          obtain ⟨x, hx⟩ : ∃ x, (F.map nB).getD m 0 = x := ⟨_, rfl⟩
          rw [hx] at hcell
          have hcc := (R_C HR.out).2
          rw [hol] at hcc
          by_cases hx46 : x = 46
          · subst hx46
            have hC2 := HC.out
            rw [← hol] at hC2
            have hC3 := Kd.C_take (m := m) hC2 (by omega)
            have hl3 : ((F.map nB).take m).length = m := by rw [List.length_take]; omega
            rw [hl3] at hC3
            have kb := Kd.C_string (P := Tryz.prog) Tryz.underlying22 Tryz.underlying5 Tryz.underlying9 (c := c) hC3
            rw [str_take F m hm hx] at kb
            clear hC2 hC3 hl3 hx
            go_wp2
            go_ret
            exact ⟨rfl, HW.out⟩
          · have bx : (x == 46) = false := by simpa using hx46
            have kb := Kd.C_string (P := Tryz.prog) Tryz.underlying22 Tryz.underlying5 Tryz.underlying9 (c := c) HC.out
            rw [str_map] at kb
            have htr := trim_no F m hm x hx hx46
            have HTR := Kp.mk htr
            clear hx hx46 htr
            go_wp2
            go_ret
            exact ⟨by rw [HTR.out]; rfl, HW.out⟩
    · obtain rfl : k = s.size := by omega
      have hFo : F = o := by
        have h := HK.out
        rw [List.drop_eq_nil_of_le (by simp), playF] at h
        exact h.symm
      clear HK
      subst hFo
      by_cases h0 : F = []
      · subst h0
        have kb := Kd.C_string (P := Tryz.prog) Tryz.underlying22 Tryz.underlying5 Tryz.underlying9 (c := c) HC.out
        simp only [List.map_nil, List.length_nil] at hol HC kb ⊢
        go_wp2
        go_ret
        exact ⟨rfl, HW.out⟩
      · obtain ⟨m, hm⟩ : ∃ m, F.length = m + 1 := ⟨F.length - 1, by have := List.length_pos_iff.2 h0; omega⟩
        rw [hm] at hol HC ⊢
        obtain ⟨ad, rfl, hcell⟩ := at_nat HC.out m (by omega)
        obtain ⟨x, hx⟩ : ∃ x, (F.map nB).getD m 0 = x := ⟨_, rfl⟩
        rw [hx] at hcell
        have hcc := (R_C HR.out).2
        rw [hol] at hcc
        by_cases hx46 : x = 46
        · subst hx46
          have hC2 := HC.out
          rw [← hol] at hC2
          have hC3 := Kd.C_take (m := m) hC2 (by omega)
          have hl3 : ((F.map nB).take m).length = m := by rw [List.length_take]; omega
          rw [hl3] at hC3
          have kb := Kd.C_string (P := Tryz.prog) Tryz.underlying22 Tryz.underlying5 Tryz.underlying9 (c := c) hC3
          rw [str_take F m hm hx] at kb
          clear hC2 hC3 hl3 hx
          go_wp2
          go_ret
          exact ⟨rfl, HW.out⟩
        · have bx : (x == 46) = false := by simpa using hx46
          have kb := Kd.C_string (P := Tryz.prog) Tryz.underlying22 Tryz.underlying5 Tryz.underlying9 (c := c) HC.out
          rw [str_map] at kb
          have htr := trim_no F m hm x hx hx46
          have HTR := Kp.mk htr
          clear hx hx46 htr
          go_wp2
          go_ret
          exact ⟨by rw [HTR.out]; rfl, HW.out⟩
end Go.Proofs.YtlkneoednkhleaaGreatDoor
