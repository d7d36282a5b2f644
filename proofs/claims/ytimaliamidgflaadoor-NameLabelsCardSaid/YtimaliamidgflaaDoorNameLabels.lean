/-
  The law NameLabels: labels, with dots between, are the name; each is a name by itself: the walk.
-/
import Derived.Test.YtimaliamidgflaaDoorPlayN
import Derived.Test.YtimaliamidgflaaDoorNbA
import Derived.Test.YtimaliamidgflaaDoorAwake12
namespace Go.Proofs.YtimaliamidgflaaDoor
open Go.RowKit Go.Proofs.YtimaliamidgflaaDoorW.PrintWords
set_option maxRecDepth 100000
set_option maxHeartbeats 1000000

theorem labels_cnt (p : L) : (labelsOf p).length ≤ p.length + 1 := by
  have h1 : sizeOf_ (labelsOf p) ≤ p.length + 2 := by
    unfold labelsOf
    split
    · simp [sizeOf_]
    · rw [splitD_sz]; exact Nat.le_refl _
  have h2 : ∀ ls : List L, ls.length + 1 ≤ sizeOf_ ls := by
    intro ls
    induction ls with
    | nil => simp [sizeOf_]
    | cons x ls ih => simp [sizeOf_] at ih ⊢; omega
  have := h2 (labelsOf p)
  omega
theorem label_facts (x : L) (h : labelB (mkB x) = true) : rightL x = true ∧ x ≠ [] ∧ x.length ≤ 63 := by
  have h' := h
  rw [label_mk] at h
  simp only [Bool.and_eq_true, decide_eq_true_eq, Bool.not_eq_true'] at h
  obtain ⟨⟨h1, h63⟩, hb⟩ := h
  have hne : x ≠ [] := by intro e; subst e; simp at h1
  have hdot : ∀ c ∈ x, c ≠ 46 := by
    intro c hc e
    subst e
    have := List.any_eq_false.1 hb (nB 46) (List.mem_map.2 ⟨46, hc, rfl⟩)
    exact this (by decide)
  refine ⟨?_, hne, h63⟩
  unfold rightL labelsOf
  rw [if_neg hne, splitD_nodot x hdot]
  simp [sizeOf_, h']
  omega
theorem join_snoc (ls : List L) (x : L) : joinL (ls ++ [x]) = if ls = [] then x else joinL ls ++ 46 :: x := by
  cases ls with
  | nil => simp [joinL, tailJ]
  | cons y r => simp [joinL, tailJ]
theorem wire_size (p : L) : (wireOf (labelsOf p) ++ [0]).length = if p = [] then 1 else p.length + 2 := by
  rw [List.length_append, List.length_singleton, wire_len]
  unfold labelsOf
  split
  · rfl
  · rw [splitD_sz]
theorem cat_dot3 (x y : L) : mkB x ++ (⟨#[46]⟩ : ByteArray) ++ mkB y = mkB (x ++ 46 :: y) := by
  apply ByteArray.ext
  simp [mkB]
theorem cat_mk3 (y : L) : mkB [] ++ mkB y = mkB y := by
  apply ByteArray.ext
  simp [mkB]
theorem getD_mk3 (ls : List L) (k : Nat) : (ls.map mkB).getD k ByteArray.empty = mkB (ls.getD k []) := by
  rw [List.getD_eq_getElem?_getD, List.getD_eq_getElem?_getD, List.getElem?_map]
  cases ls[k]? <;> rfl
theorem nameLabels_walk (s0 : ByteArray) (h0 : s0.size ≤ 9223372036854775807) (w : World) (hE : Env w) :
    Calls Tryd.prog 13 #[.string s0] w fun e w' => e = .returned (.bool true) ∧ Below w.heap.size w w' := by
  have HE := Kp.mk hE
  clear hE
  obtain ⟨p, hp⟩ : ∃ p, playN s0.data.toList = p := ⟨_, rfl⟩
  have hpr := playN_right s0.data.toList
  rw [hp] at hpr
  obtain ⟨hpr, hpl⟩ := hpr
  have hps : (mkB p).size ≤ 60 := hpl
  have HP := Kp.mk (playname_calls s0 w h0)
  rw [hp] at HP
  clear hp
  have hall := (right_labels p hpr).2
  have hnl := name_labels p
  rw [nameOf_join] at hnl
  have hws := wire_size p
  have hcnt := labels_cnt p
  obtain ⟨ls, hls⟩ : ∃ ls, labelsOf p = ls := ⟨_, rfl⟩
  have HWG := Kp.mk (fun w h => write_good (mkB p) w h (by omega) hpr)
  rw [mkB_toList] at HWG
  rw [hls] at hall hnl hws hcnt HWG
  have hpp : p.length ≤ 60 := hpl
  have HALL := Kp.mk hall
  have HNL := Kp.mk hnl
  have HWS := Kp.mk hws
  have HLS := Kp.mk hls
  clear hall hnl hws hls hpr
  go_enter Tryd.func13, Tryd.ntmps13
  go_wp2_with (fail)
  refine HP.out.mono ?_
  rintro e1 w1 ⟨rfl, hb⟩
  have HB1 := Kp.mk hb
  clear hb
  go_wp2_with (fail)
  refine (labels_calls (mkB p) _ (HE.out.below HB1.out) (by omega)).mono ?_
  rintro e3 w3 ⟨v, rfl, hm, hb⟩
  have HB3 := Kp.mk (below_step HB1.out hb)
  have hm2 := strsK.K_of_M hm
  rw [mkB_toList, HLS.out] at hm2
  obtain ⟨A, c, rfl, hc, hC⟩ := slice_open hm2
  have hll : (ls.map mkB).length = ls.length := List.length_map ..
  rw [hll] at hC hc ⊢
  have HC := Kp.mk hC
  clear hb hm hm2 hC
  go_wp2_with (fail)
  go_loopw [4, 5] (fun t i wr => ∃ (k : Nat) (tn : L), k ≤ ls.length ∧ i = .int .i64 k ∧ t = .string (mkB tn) ∧ Kp (joinL (ls.take k) = tn) ∧ Kp (tn.length ≤ 64 * k) ∧ Kp (Below w3.heap.size w3 wr)) (fun _ i _ => ls.length - (intOf i).toNat)
  case atStart => exact ⟨0, [], Nat.zero_le _, rfl, rfl, ⟨rfl⟩, ⟨by decide⟩, ⟨Below.refl _ _⟩⟩
  case round =>
    obtain ⟨k, tn, hk, rfl, rfl, HT, HTL, HW⟩ := hrel
    by_cases hlt : k < ls.length
    · obtain ⟨ad, rfl, hcell⟩ := at_natS (Kd.C_below HC.out HW.out) k hlt
      rw [getD_mk3] at hcell
      have htk := take_snoc ls [] k hlt
      have hmem := getD_mem ls [] k hlt
      obtain ⟨x, hx⟩ : ∃ x, ls.getD k [] = x := ⟨_, rfl⟩
      rw [hx] at hcell htk hmem
      obtain ⟨hrx, hne, hx63⟩ := label_facts x (HALL.out x hmem)
      have HRX := Kp.mk hrx
      have HX := Kp.mk hx
      have bx : (mkB x).toList.isEmpty = false := by rw [ByteArray.toList_eq]; simpa [mkB] using hne
      have hxs : (mkB x).size ≤ 63 := hx63
      have hts : (mkB tn).size ≤ 64 * k := HTL.out
      have hjs := join_snoc (ls.take k) x
      rw [← htk, HT.out] at hjs
      by_cases hk0 : k = 0
      · subst hk0
        have htn : tn = [] := HT.out.symm
        subst htn
        rw [if_pos (show ls.take 0 = [] from List.take_zero)] at hjs
        have HJS := Kp.mk hjs
        have hcell0 : wr.cell? ad = some (.string (mkB x)) := by simpa [Addr.add] using hcell
        clear hx htk hmem hrx hne hjs HT
        go_wp2_with (fail)
        rw [cat_mk3]
        refine (right_calls (mkB x) _ (HE.out.below (below_step HB3.out HW.out)) (by omega)).mono ?_
        rintro e4 w4 ⟨rfl, hb⟩
        have HW2 := Kp.mk (below_step HW.out hb)
        clear hb
        rw [mkB_toList, HRX.out]
        obtain ⟨ad2, he2, hcell2⟩ := at_natS (Kd.C_below HC.out HW2.out) 0 hlt
        injection he2 with he2
        subst he2
        rw [getD_mk3, HX.out] at hcell2
        have hcell3 : w4.cell? ad = some (.string (mkB x)) := by simpa [Addr.add] using hcell2
        go_wp2
        exact ⟨⟨1, x, by omega, by go_num, rfl, HJS, ⟨by omega⟩, HW2⟩, by simp [intOf]; omega⟩
      · have htne : ls.take k ≠ [] := by
          intro e
          have := congrArg List.length e
          rw [List.length_take, List.length_nil] at this
          omega
        rw [if_neg htne] at hjs
        have HJS := Kp.mk hjs
        clear hx htk hmem hrx hne hjs HT htne
        go_wp2_with (fail)
        rw [cat_dot3]
        refine (right_calls (mkB x) _ (HE.out.below (below_step HB3.out HW.out)) (by omega)).mono ?_
        rintro e4 w4 ⟨rfl, hb⟩
        have HW2 := Kp.mk (below_step HW.out hb)
        clear hb
        rw [mkB_toList, HRX.out]
        obtain ⟨ad2, he2, hcell2⟩ := at_natS (Kd.C_below HC.out HW2.out) k hlt
        injection he2 with he2
        subst he2
        rw [getD_mk3, HX.out] at hcell2
        go_wp2
        exact ⟨⟨k + 1, tn ++ 46 :: x, by omega, by go_num, rfl, HJS, ⟨by have := HTL.out; rw [List.length_append, List.length_cons]; omega⟩, HW2⟩, by simp [intOf]; omega⟩
    · obtain rfl : k = ls.length := by omega
      have htp : tn = p := by
        have := HT.out
        rw [List.take_length, HNL.out] at this
        exact this.symm
      subst htp
      have HB4 := Kp.mk (below_step HB3.out HW.out)
      clear hlt HT HTL
      go_wp2_with (fail)
      refine (HWG.out _ (HE.out.below HB4.out)).mono ?_
      rintro e5 w5 ⟨y1, y2, rfl, hm1, hm2, hb⟩
      obtain rfl := er_open_none (erK.K_of_M hm2)
      obtain ⟨A5, c5, rfl, hc5, hC5⟩ := slice_open (bytesK.K_of_M hm1)
      have hws := HWS.out
      obtain ⟨ws, hwq⟩ : ∃ ws, wireOf ls ++ [0] = ws := ⟨_, rfl⟩
      rw [hwq] at hws hc5 hC5 ⊢
      have HB5 := Kp.mk (below_step HB4.out hb)
      clear hwq hm1 hm2 hb hC5
      by_cases hp0 : tn = []
      · subst hp0
        rw [if_pos rfl] at hws
        have bp : (mkB []).toList.isEmpty = true := by rw [ByteArray.toList_eq]; rfl
        go_wp2_with (fail)
        refine (awake12_calls _ (HE.out.below HB5.out)).mono ?_
        rintro e6 w6 ⟨rfl, hb⟩
        have HB6 := Kp.mk (below_step HB5.out hb)
        clear hb
        go_wp2
        go_ret
        exact ⟨rfl, HB6.out⟩
      · rw [if_neg hp0] at hws
        have bp : (mkB tn).toList.isEmpty = false := by rw [ByteArray.toList_eq]; simpa [mkB] using hp0
        have hsz : (mkB tn).size = tn.length := rfl
        clear hp0
        go_wp2_with (fail)
        refine (awake12_calls _ (HE.out.below HB5.out)).mono ?_
        rintro e6 w6 ⟨rfl, hb⟩
        have HB6 := Kp.mk (below_step HB5.out hb)
        clear hb
        go_wp2
        go_ret
        exact ⟨rfl, HB6.out⟩
end Go.Proofs.YtimaliamidgflaaDoor
