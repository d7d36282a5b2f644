/-
  The law DnsmsgCompressed: with names that lead back to the question's a message is what it is with names written out: the walk.
-/
import Derived.Test.YtlkneoednkhleaaGreatDoorZDcB
import Derived.Test.YtlkneoednkhleaaGreatDoorGu
import Derived.Test.YtlkneoednkhleaaGreatDoorGs
import Derived.Test.YtlkneoednkhleaaGreatDoorGr
import Derived.Test.YtlkneoednkhleaaGreatDoorZPlayN
namespace Go.Proofs.YtlkneoednkhleaaGreatDoor
open Go.RowKit Go.Proofs.YtlkneoednkhleaaGreatDoorW.PrintWords Go.Proofs.YtlkneoednkhleaaGreatDoorW.PrintLast
set_option linter.unusedVariables false
set_option linter.unusedSimpArgs false
set_option maxRecDepth 100000
set_option maxHeartbeats 4000000

theorem dnsmsgCompressed_walk (s0 : ByteArray) (hs0 : s0.size ≤ 9223372036854775807) (a : Int) (ha1 : -9223372036854775808 ≤ a) (ha2 : a ≤ 9223372036854775807) (t : Int) (ht0 : 0 ≤ t) (ht1 : t ≤ 4294967295) (w : World) (hE : Env w) :
    Calls Tryz.prog 7 #[.string s0, .int .i64 a, .int .u32 t] w fun e w' => e = .returned (.bool true) ∧ Below w.heap.size w w' := by
  have HS := Kp.mk (St.start hE)
  have HE := Kp.mk hE
  obtain ⟨hpr, hpl⟩ := playN_right s0.data.toList
  obtain ⟨pn, hpn⟩ : ∃ pn, playN s0.data.toList = pn := ⟨_, rfl⟩
  rw [hpn] at hpr hpl
  obtain ⟨N, hN, hNe⟩ := umod a 20 (by decide) (by decide)
  have hN20 : N ≤ 19 := by omega
  have HPR := Kp.mk hpr
  have HPN := Kp.mk hpn
  have HWL : Kp (∀ k, (bytsN pn t N k).length ≤ 90 + 16 * k) := ⟨fun k => bytsN_len pn t N k hpl⟩
  have HBY := Kp.mk (bytsN_byts pn hpr t ht0 ht1 N (by omega) N (Nat.le_refl _))
  have HPM : Kp (parseM (bytsN pn t N N) = (ptrM pn t (isN N), .none)) := ⟨by rw [bytsN_ptr]; exact ptr_parse pn hpr t (isN N) (by rw [isN_len]; omega)⟩
  have HLK := Kp.mk (want_like pn t (isN N))
  have HSU := Kp.mk (fun k => bytsN_succ pn t N k)
  have HIS := Kp.mk isN_succ
  have hnl := nameW_leD pn
  obtain ⟨ws, hws⟩ : ∃ ws, nameW pn = ws := ⟨_, rfl⟩
  rw [hws] at hnl
  have HWS := Kp.mk hws
  have H0 : Kp (bytsN pn t N 0 = [0, 9, 128, 0, 0, 1, (N : Int) / 256, (N : Int) % 256, 0, 0, 0, 0] ++ (ws ++ [0, 1, 0, 1])) := ⟨by
    rw [← hws]
    unfold bytsN headB isN be16
    simp⟩
  have e1 : IntKind.u8.wrap ((N : Int) / 256) = (N : Int) / 256 := IntWalk.u8_in _ (by omega)
  have e2 : IntKind.u8.wrap (N : Int) = (N : Int) % 256 := by unfold IntKind.wrap IntKind.bits IntKind.signed; simp
  have hNk : wrap64 ((IntKind.u64.wrap a).tmod 20) = (N : Int) := hNe
  clear hE hpr hpn hNe hws
  go_enter Tryz.func7, Tryz.ntmps7
  go_wp2_with (fail)
  refine b_ (playname_calls s0 _ hs0) HS ?_
  intro w1 HB1 HS1
  rw [HPN.out]
  go_wp2_with (fail)
  refine (rwrite_good (mkB pn) _ (by show pn.length ≤ 700; omega) HPR.out).mono ?_
  rintro e3 w3 ⟨v3, rfl, hR3, hB3⟩
  have hf0 : failV .none = .agg #[.int .i64 0, .int .i64 0, .bool false] := rfl
  rw [hf0]
  have hss' : wireOf (labelsOf (mkB pn).data.toList) ++ [0] = ws := HWS.out
  rw [hss'] at hR3
  have hB3a := (Below.refl w3.heap.size w3).alloc (Nat.le_refl _) (.cells #[.int .i64 0, .int .i64 0, .bool false] 38)
  have HS3 := Kp.mk (HS1.out.step (below_step hB3 hB3a))
  have HR3 := Kp.mk (Kd.R_lower (Kd.R_below (w1 := w3.alloc (.cells #[.int .i64 0, .int .i64 0, .bool false] 38)) hR3 hB3a) HS1.out.size)
  obtain ⟨A3, c3, rfl⟩ := Kd.R_slice HR3.out
  have HC3 := Kp.mk (R_C HR3.out).1
  clear hR3 hB3 hB3a hss' hf0
  have hl4 := lit_bytes (w3.alloc (.cells #[.int .i64 0, .int .i64 0, .bool false] 38)) w.heap.size [0, 9, 128, 0, 0, 1, (N : Int) / 256, (N : Int) % 256, 0, 0, 0, 0] HS3.out.size (by show 12 ≤ 9223372036854775807; decide)
  have hz3 : (w3.alloc (.cells #[.int .i64 0, .int .i64 0, .bool false] 38)).heap.size = w3.heap.size + 1 := by simp
  rw [hz3] at hl4
  have HR4 := Kp.mk hl4
  clear hz3
  have HS4 := Kp.mk (HS3.out.alloc (.cells (([0, 9, 128, 0, 0, 1, (N : Int) / 256, (N : Int) % 256, 0, 0, 0, 0] : List Int).map (Value.int .u8)).toArray 5))
  have HC4 := Kp.mk (Kd.C_below HC3.out ((Below.refl _ _).alloc (Nat.le_refl _) (.cells (([0, 9, 128, 0, 0, 1, (N : Int) / 256, (N : Int) % 256, 0, 0, 0, 0] : List Int).map (Value.int .u8)).toArray 5)))
  clear hl4 HC3 HR3
  go_wp2_with (at_builtin; (with_reducible refine gate_builtin (b := .append) (xs := #[.tmp 31, .tmp 32]) rfl ?_); go_must (refine app_bytes (w0 := w) (base := w.heap.size) (s := .tmp 31) (x := .tmp 32) (v := .slice (some ⟨w3.heap.size + 1, 0, none⟩) 12 12) rfl rfl [0, 9, 128, 0, 0, 1, (N : Int) / 256, (N : Int) % 256, 0, 0, 0, 0] ws A3 ws.length c3 rfl rfl HR4.out HC4.out HS4.out.below HS4.out.size (by show 12 + ws.length ≤ _; omega) ?_))
  intro v5 w5 HR5 HB5 hs5
  obtain ⟨A5, c5, rfl⟩ := Kd.R_slice HR5.out
  have HL5 := Kp.mk (R_C (lit_bytes w5 w5.heap.size [0, 1, 0, 1] (Nat.le_refl _) (by decide))).1
  have hB5a := (Below.refl w5.heap.size w5).alloc (Nat.le_refl _) (.cells (([0, 1, 0, 1] : List Int).map (Value.int .u8)).toArray 5)
  have HR5a := Kp.mk (Kd.R_below HR5.out hB5a)
  have HB5a := Kp.mk (below_step HB5.out hB5a)
  have hs5a : w.heap.size ≤ (w5.alloc (.cells (([0, 1, 0, 1] : List Int).map (Value.int .u8)).toArray 5)).heap.size := Nat.le_trans hs5.out hB5a.size
  have hl5 : (([0, 9, 128, 0, 0, 1, (N : Int) / 256, (N : Int) % 256, 0, 0, 0, 0] : List Int) ++ ws).length = 12 + ws.length := by rw [List.length_append]; rfl
  clear hB5a
  go_wp2_with (at_builtin; (with_reducible refine gate_builtin (b := .append) (xs := #[.tmp 33, .tmp 34]) rfl ?_); go_must (refine app_bytes (w0 := w) (base := w.heap.size) (s := .tmp 33) (x := .tmp 34) rfl rfl ([0, 9, 128, 0, 0, 1, (N : Int) / 256, (N : Int) % 256, 0, 0, 0, 0] ++ ws) [0, 1, 0, 1] (some ⟨w5.heap.size, 0, none⟩) 4 4 rfl rfl HR5a.out HL5.out HB5a.out hs5a (by rw [hl5]; omega) ?_))
  intro v6 w6 HR6 HB6 hs6
  have HR6 : Kp ((Kd.int .u8).R 5 w6 w.heap.size (fun _ => True) v6 (bytsN pn t N 0)) := ⟨by rw [H0.out]; exact HR6.out⟩
  obtain ⟨bs0, hbs0⟩ : ∃ b, bytsN pn t N 0 = b := ⟨_, rfl⟩
  rw [hbs0] at HR6
  obtain ⟨A6, c6, rfl⟩ := Kd.R_slice HR6.out
  have HS6 : Kp (St w w6) := ⟨⟨HB6.out, HE.out.below HB6.out⟩⟩
  have HCW : Kp (CW w ((w6.alloc (.cells #[.string (mkB pn), .int .i64 1, .int .i64 1] 30)).alloc (.cells #[.int .i64 9, .bool true, .int .i64 0, .int .i64 0, .int .i64 0, .slice (some ⟨w6.heap.size, 0, none⟩) 1 1, .slice none 0 0, .slice none 0 0, .slice none 0 0] 59)) (w6.heap.size + 1) w6.heap.size pn (.slice A6 bs0.length c6) (.slice none 0 0) bs0 []) := ⟨by
    obtain ⟨t0, t1, tb⟩ := two_new w6 (.cells #[.string (mkB pn), .int .i64 1, .int .i64 1] 30) (.cells #[.int .i64 9, .bool true, .int .i64 0, .int .i64 0, .int .i64 0, .slice (some ⟨w6.heap.size, 0, none⟩) 1 1, .slice none 0 0, .slice none 0 0, .slice none 0 0] 59)
    exact ⟨HS6.out.step tb, HE.out, t1, t0, Kd.R_of_own (Kd.own_of_R (Kd.R_below HR6.out tb)) (fun k hk => hk), Kd.R_nil _ _ _ _ _, Nat.le_trans hs6.out (Nat.le_succ _), by omega⟩⟩
  clear HR5 HR5a HL5 HB5 HB5a hs5a hl5 hs5 HR6 HB6 HS6 HR4 HC4 HS4 HS3 HWS
  go_wp2_with (fail)
  generalize (w6.alloc (.cells #[.string (mkB pn), .int .i64 1, .int .i64 1] 30)).alloc (.cells #[.int .i64 9, .bool true, .int .i64 0, .int .i64 0, .int .i64 0, .slice (some ⟨w6.heap.size, 0, none⟩) 1 1, .slice none 0 0, .slice none 0 0, .slice none 0 0] 59) = w7 at HCW ⊢
  go_loopw [9, 11] (fun b9 i wr => ∃ (k : Nat) (v6 : Value), k ≤ N ∧ i = .int .i64 k ∧ Kp (CW w wr (w6.heap.size + 1) w6.heap.size pn b9 v6 (bytsN pn t N k) ((isN k).map (wantR pn t)))) (fun _ i _ => N - (intOf i).toNat)
  case atStart => exact ⟨0, _, Nat.zero_le _, rfl, by rw [hbs0]; exact HCW⟩
  case round =>
    obtain ⟨k, v6, hk, rfl, HW⟩ := hrel
    clear HCW hbs0 HR6 H0 hnl
    obtain ⟨A9, c9, rfl⟩ := Kd.R_slice HW.out.rb
    obtain ⟨A10, c10, rfl⟩ := Kd.R_slice HW.out.rr
    by_cases hlt : k < N
    · have b1 : decide ((k : Int) < (N : Int)) = true := by simp; omega
      have hsu := HSU.out k
      have hrs : (isN (k + 1)).map (wantR pn t) = (isN k).map (wantR pn t) ++ [wantR pn t k] := by rw [HIS.out, List.map_append]; rfl
      have hwl := HWL.out k
      have hrl : ((isN k).map (wantR pn t)).length = k := by rw [List.length_map, isN_len]
      obtain ⟨bs, hbs⟩ : ∃ b, bytsN pn t N k = b := ⟨_, rfl⟩
      obtain ⟨bs', hbs'⟩ : ∃ b, bytsN pn t N (k + 1) = b := ⟨_, rfl⟩
      obtain ⟨rs, hrse⟩ : ∃ r, (isN k).map (wantR pn t) = r := ⟨_, rfl⟩
      obtain ⟨rs', hrse'⟩ : ∃ r, (isN (k + 1)).map (wantR pn t) = r := ⟨_, rfl⟩
      rw [hbs, hbs'] at hsu
      rw [hrse, hrse'] at hrs
      rw [hbs] at hwl HW ⊢
      rw [hrse] at hrl HW
      have HBS := Kp.mk hsu
      have HRS := Kp.mk hrs
      have HBE := Kp.mk hbs'
      have HRE := Kp.mk hrse'
      have hlb : bs.length + 16 ≤ 140737488355328 := by omega
      have HLR : Kp ((rs.length + 1) * 96 ≤ 140737488355328) := ⟨by omega⟩
      have f1 : IntKind.u8.wrap (t / 16777216) = t / 16777216 := IntWalk.u8_in _ (by omega)
      have f2 : IntKind.u8.wrap (t / 65536) = t / 65536 % 256 := by unfold IntKind.wrap IntKind.bits IntKind.signed; simp
      have f3 : IntKind.u8.wrap (t / 256) = t / 256 % 256 := by unfold IntKind.wrap IntKind.bits IntKind.signed; simp
      have f4 : IntKind.u8.wrap t = t % 256 := by unfold IntKind.wrap IntKind.bits IntKind.signed; simp
      have f5 : IntKind.u8.wrap (k : Int) = (k : Int) := IntWalk.u8_in _ (by omega)
      have HLT := Kp.mk (R_C (lit_bytes wr wr.heap.size (ptrR t k) (Nat.le_refl _) (by show 16 ≤ 9223372036854775807; decide))).1
      have hBa := (Below.refl wr.heap.size wr).alloc (Nat.le_refl _) (.cells ((ptrR t k).map (Value.int .u8)).toArray 5)
      have HWa := Kp.mk (HW.out.step hBa)
      have HRa := Kp.mk (Kd.R_mono HWa.out.rb (fun _ _ => trivial) (ok' := fun _ => True))
      clear hsu hrs hbs hbs' hrse hrse' hwl hrl hBa HW
      go_wp2_with (at_builtin; (with_reducible refine gate_builtin (b := .append) (xs := #[.tmp 45, .tmp 59]) rfl ?_); go_must (refine app_bytesX (w0 := w) (base := w.heap.size) (s := .tmp 45) (x := .tmp 59) (v := .slice A9 bs.length c9) rfl rfl bs (ptrR t k) (some ⟨wr.heap.size, 0, none⟩) 16 16 rfl rfl HRa.out HLT.out HWa.out.st.below HWa.out.st.size (by show bs.length + 16 ≤ _; omega) ?_))
      intro v9 wx HRx HBx HGx HOx
      rw [← HBS.out] at HRx
      obtain ⟨A11, c11, rfl⟩ := Kd.R_slice HRx.out
      have hsza : (wr.alloc (.cells ((ptrR t k).map (Value.int .u8)).toArray 5)).heap.size = wr.heap.size + 1 := by simp
      have HWx := Kp.mk (HWa.out.bytes HGx.out HRx.out (by rw [hsza]; exact HOx.out) HBx.out)
      clear hsza
      clear HWa HRa HLT HGx HRx HOx HBx f1 f2 f3 f4
      go_wp2_with (fail)
      have HWD := Kp.mk (HWx.out.step (below_drew (Below.refl _ _)))
      clear HWx
      refine start_ (n := 12) (S := fun w' => w'.cell? ⟨w6.heap.size + 1, 6, none⟩ = some (.slice A10 rs.length c10)) (ds := [11]) #[false, false, false, false, false, false, false, false, false, false, false, false] (by kernel_rfl) rfl rfl (blk_cell HWD.out.blk 6) (fun hHeld => ?_)
      generalize wx.drew = wd at HWD hHeld ⊢
      refine pure_ (i := 0) (N := some 61) (v := ?_) (a' := ?_) #[true, false, false, false, false, false, false, false, false, false, false, false] rfl rfl (by kernel_rfl) (fun _ _ _ h => h) (Or.inl ⟨by rfl, ?_⟩) ?_ ?_
      rotate_left
      · intro w'
        go_simp
        with_reducible rfl
      rotate_left
      · simp only [Act.put, List.setIfInBounds_toArray, List.set_cons_zero, List.set_cons_succ, i64_w, i32_w]
        rfl
      refine pure_ (i := 2) (N := some 63) (v := ?_) (a' := ?_) #[true, false, true, false, false, false, false, false, false, false, false, false] rfl rfl (by kernel_rfl) (fun _ _ _ h => h) (Or.inl ⟨by rfl, ?_⟩) ?_ ?_
      rotate_left
      · intro w'
        go_simp
        with_reducible rfl
      rotate_left
      · simp only [Act.put, List.setIfInBounds_toArray, List.set_cons_zero, List.set_cons_succ, i64_w, i32_w]
        rfl
      refine pure_ (i := 3) (N := some 64) (v := ?_) (a' := ?_) #[true, false, true, true, false, false, false, false, false, false, false, false] rfl rfl (by kernel_rfl) (fun _ _ _ h => h) (Or.inl ⟨by rfl, ?_⟩) ?_ ?_
      rotate_left
      · intro w'
        go_simp
        with_reducible rfl
      rotate_left
      · simp only [Act.put, List.setIfInBounds_toArray, List.set_cons_zero, List.set_cons_succ, i64_w, i32_w]
        rfl
      refine pure_ (i := 4) (N := some 65) (v := ?_) (a' := ?_) #[true, false, true, true, true, false, false, false, false, false, false, false] rfl rfl (by kernel_rfl) (fun _ _ _ h => h) (Or.inl ⟨by rfl, ?_⟩) ?_ ?_
      rotate_left
      · intro w'
        go_simp
        with_reducible rfl
      rotate_left
      · simp only [Act.put, List.setIfInBounds_toArray, List.set_cons_zero, List.set_cons_succ, i64_w, i32_w]
        rfl
      refine pure_ (i := 5) (N := some 66) (v := ?_) (a' := ?_) #[true, false, true, true, true, true, false, false, false, false, false, false] rfl rfl (by kernel_rfl) (fun _ _ _ h => h) (Or.inl ⟨by rfl, ?_⟩) ?_ ?_
      rotate_left
      · intro w'
        go_simp
        with_reducible rfl
      rotate_left
      · simp only [Act.put, List.setIfInBounds_toArray, List.set_cons_zero, List.set_cons_succ, i64_w, i32_w]
        rfl
      refine take_ (i := 1) (N := some 62) (v := ?_) (a' := ?_) #[true, true, true, true, true, true, false, false, false, false, false, false] rfl rfl (by kernel_rfl) (fun _ _ _ h => h) (Or.inl ⟨by rfl, ?_⟩) hHeld ?_ ?_
      rotate_left
      · intro w' z0
        go_simp
        with_reducible rfl
      rotate_left
      · simp only [Act.put, List.setIfInBounds_toArray, List.set_cons_zero, List.set_cons_succ, i64_w, i32_w]
        rfl
      refine one_ (i := 6) (N := some 67) #[true, true, true, true, true, true, true, false, false, false, false, false] rfl rfl (by kernel_rfl) (by decide) (fun K hK => ?_)
      refine goes_ Tryz.func38 (by kernel_rfl) rfl #[.int .u8 1, .int .u8 2, .int .u8 3, .int .u8 (k : Int)] (by rfl) rfl rfl (by (try simp only [List.map_toArray, List.map_cons, List.map_nil]); first | done | rfl) ?_
      with_reducible refine (v4_calls _ _).mono ?_
      rintro e5 w8 ⟨rfl, hb5⟩
      have HW8 := Kp.mk (HWD.out.step hb5)
      clear hb5
      refine ⟨_, rfl, ?_⟩
      refine hK.out _ _ (blk_cell HW8.out.blk 6) (fun hHeld => ?_)
      clear hK K
      refine norm_ (a' := ?_) ?_ ?_
      rotate_left
      · show Act.put _ (some 67) _ = _
        simp only [Act.put, List.setIfInBounds_toArray, List.set_cons_zero, List.set_cons_succ, i64_w, i32_w]
        rfl
      refine pure_ (i := 7) (N := some 68) (v := ?_) (a' := ?_) #[true, true, true, true, true, true, true, true, false, false, false, false] rfl rfl (by kernel_rfl) (fun _ _ _ h => h) (Or.inl ⟨by rfl, ?_⟩) ?_ ?_
      rotate_left
      · intro w'
        go_simp
        with_reducible rfl
      rotate_left
      · simp only [Act.put, List.setIfInBounds_toArray, List.set_cons_zero, List.set_cons_succ, i64_w, i32_w]
        rfl
      refine one_ (i := 8) (N := some 69) #[true, true, true, true, true, true, true, true, true, false, false, false] rfl rfl (by kernel_rfl) (by decide) (fun K hK => ?_)
      refine value_ (w1 := ?_) (v := ?_) (by rfl) rfl ?_ ?_
      rotate_left 2
      · go_simp
        constructor
        · rfl
        · rfl
      have HW9 := Kp.mk (HW8.out.step ((Below.refl w8.heap.size w8).alloc (Nat.le_refl _) (.cells (recA (wantR pn t k) (.slice none 0 0)) 28)))
      refine hK.out _ _ (blk_cell HW9.out.blk 6) (fun hHeld => ?_)
      clear hK K
      refine norm_ (a' := ?_) ?_ ?_
      rotate_left
      · show Act.put _ (some 69) _ = _
        simp only [Act.put, List.setIfInBounds_toArray, List.set_cons_zero, List.set_cons_succ, i64_w, i32_w]
        rfl
      refine one_ (i := 9) (N := some 70) #[true, true, true, true, true, true, true, true, true, true, false, false] rfl rfl (by kernel_rfl) (by decide) (fun K hK => ?_)
      refine step_rec0 (w0 := w8) (base := w.heap.size) (by rfl) (s := .tmp 62) (x := .tmp 69) (v := .slice A10 rs.length c10) (by rfl) (fun k => (Value.slice A11 bs'.length c11).ownBlock ≠ some k) rs (wantR pn t k) rfl (by rfl) (by rfl) HW8.out.rr (fun k hk e => by have := Kd.R_lt HW8.out.rb k e; omega) (Below.refl _ _) HW8.out.st.size HLR.out ?_
      intro v1 wy HRy HBy HGy hsy
      rw [← HRS.out] at HRy
      obtain ⟨A12, c12, rfl⟩ := Kd.R_slice HRy.out
      have HYB := Kp.mk ((HGy.out.block _ (heap_lt HW8.out.blk) (Kd.R_ne HW8.out.rr HW8.out.blk (by decide))).trans HW8.out.blk)
      have HWy := Kp.mk (HW8.out.more HGy.out HRy.out (HW8.out.st.below.trans HBy.out))
      refine hK.out _ _ (blk_cell HYB.out 6) (fun hHeld => ?_)
      clear hK K
      refine norm_ (a' := ?_) ?_ ?_
      rotate_left
      · show Act.put _ (some 70) _ = _
        simp only [Act.put, List.setIfInBounds_toArray, List.set_cons_zero, List.set_cons_succ, i64_w, i32_w]
        rfl
      refine pure_ (i := 10) (N := some 71) (v := ?_) (a' := ?_) #[true, true, true, true, true, true, true, true, true, true, true, false] rfl rfl (by kernel_rfl) (fun _ _ _ h => h) (Or.inl ⟨by rfl, ?_⟩) ?_ ?_
      rotate_left
      · intro w'
        go_simp
        with_reducible rfl
      rotate_left
      · simp only [Act.put, List.setIfInBounds_toArray, List.set_cons_zero, List.set_cons_succ, i64_w, i32_w]
        rfl
      refine last_ (i := 11) (N := none) #[true, true, true, true, true, true, true, true, true, true, true, true] rfl rfl (by kernel_rfl) (by decide) (fun K hK => ?_)
      have d8 := blk_cell HYB.out 6
      have f8 := blk_frozen HYB.out 6
      refine skip_ (w1 := ?_) (by rfl) rfl ?_ ?_
      rotate_left
      · go_simp
        rfl
      refine hK.out _ _ ?_
      clear hK K
      refine done_ (by kernel_rfl) ?_
      generalize wy.setCell ⟨w6.heap.size + 1, 6, none⟩ (.slice A12 rs'.length c12) = wz at HWy ⊢
      clear d8 f8 hHeld HWD HW8 HW9 HRy HBy HGy HYB f5
      go_wp2
      refine ⟨⟨k + 1, _, by omega, by go_num, by rw [HBE.out, HRE.out]; exact HWy⟩, ?_⟩
      have hi1 : (intOf (Value.int .i64 ((k : Int) + 1))).toNat = k + 1 := by simp [intOf] <;> omega
      have hi2 : (intOf (Value.int .i64 (k : Int))).toNat = k := by simp [intOf]
      rw [hi1, hi2]
      omega
    · obtain rfl : k = N := by omega
      have hwl := HWL.out k
      have hrl : ((isN k).map (wantR pn t)).length = k := by rw [List.length_map, isN_len]
      have hwm : wantM pn t (isN k) = ⟨9, true, 0, 0, 0, [⟨pn, 1, 1⟩], (isN k).map (wantR pn t), [], []⟩ := rfl
      have hlk := HLK.out
      rw [hwm] at hlk
      obtain ⟨bs, hbs⟩ : ∃ b, bytsN pn t k k = b := ⟨_, rfl⟩
      obtain ⟨rs, hrse⟩ : ∃ r, (isN k).map (wantR pn t) = r := ⟨_, rfl⟩
      obtain ⟨pz, hpz⟩ : ∃ z, ptrM pn t (isN k) = z := ⟨_, rfl⟩
      rw [hbs, hrse] at HW
      rw [hbs]
      rw [hrse, hpz] at hlk
      rw [hbs] at hwl HBY
      rw [hbs, hpz] at HPM
      have HLQ := Kp.mk hlk
      obtain ⟨pi, pr, po, pc, pf, pq, pa, pu, pe⟩ := pz
      obtain ⟨-, hcb, hCb⟩ := Kd.R_reads' HW.out.rb
      have HCb := Kp.mk hCb
      have hcm := R_cap HW.out.rb
      have b1 : decide ((k : Int) < (k : Int)) = false := by simp
      clear hwl hrl hwm hlk hbs hrse hpz hCb hlt HLK HWL HSU HIS
      go_wp2_with (fail)
      refine (parse_calls A9 c9 bs _ ⟨pi, pr, po, pc, pf, pq, pa, pu, pe⟩ .none HCb.out HBY.out hcb hcm HW.out.st.env HPM.out).mono ?_
      rintro e8 w8 ⟨u5, u6, u7, u8, u, rfl, hR8, hM8, hB8⟩
      obtain rfl := er_open_none (erK.K_of_M hM8)
      have HW8 := Kp.mk (HW.out.step hB8)
      obtain ⟨U5, q5, rfl⟩ := Kd.R_slice hR8.qs
      obtain ⟨U6, q6, rfl⟩ := Kd.R_slice hR8.an
      obtain ⟨U7, q7, rfl⟩ := Kd.R_slice hR8.au
      obtain ⟨U8, q8, rfl⟩ := Kd.R_slice hR8.ex
      have HN8 := Kp.mk hR8.C
      have HZ8 := Kp.mk (HW8.out.st.below.alloc HW8.out.st.size (.cells #[.int .i64 0, .bool false, .int .i64 0, .int .i64 0, .int .i64 0, .slice none 0 0, .slice none 0 0, .slice none 0 0, .slice none 0 0] 59))
      have hsz8 := HW8.out.st.size
      clear hR8 hM8 hB8 HCb HBY HPM HW
      go_wp2_with (with_reducible refine st_blk (w0 := w) (base := w.heap.size) rfl 59 (.tmp 12) (.tmp 75) rfl rfl w8.heap.size _ rfl rfl ⟨heap_new _ _⟩ (by kernel_rfl) (by kernel_rfl) (by kernel_rfl) HZ8 hsz8 ?_)
      intro w9 Hz9 HO9 HB9 hs9
      have hB89 := stored_new HW8.out.st.below HB9.out hs9 HO9.out
      have HW9 := Kp.mk (HW8.out.step hB89)
      have HN9 := Kp.mk (HN8.out.below hB89)
      have HSt9 := Kp.mk HW9.out.st
      clear hs9 hB89 HO9 HB9 HZ8 HW8 HN8
      go_wp2_with (fail)
      refine b_ (awake14_calls _ HSt9.out.env) HSt9 ?_
      intro wa HBa HSa
      have Hza := Kp.mk ((HBa.out.block _ (heap_lt Hz9.out)).trans Hz9.out)
      have HWa := Kp.mk (HW9.out.step HBa.out)
      have HNa := Kp.mk (HN9.out.below HBa.out)
      have HGa := Kp.mk HWa.out.blk
      have HMa : Kp (MsgC wa ⟨9, true, 0, 0, 0, [⟨pn, 1, 1⟩], rs, [], []⟩ (some ⟨w6.heap.size, 0, none⟩) A10 none none) := ⟨⟨quC_one HWa.out.qb, (Kd.R_reads' HWa.out.rr).2.2, C_nil _ _, C_nil _ _⟩⟩
      clear Hz9 HW9 HN9 HWa
      go_wp2_with (first | (with_reducible refine ld_blkG (by kernel_rfl) 59 (.tmp 12) rfl w8.heap.size rfl Hza Tryz.underlying59 rfl (by kernel_rfl) ?_) | (with_reducible refine ld_blkG (by kernel_rfl) 59 (.tmp 10) rfl (w6.heap.size + 1) rfl HGa Tryz.underlying59 rfl (by kernel_rfl) ?_))
      refine b_ (sameMsg_calls ⟨pi, pr, po, pc, pf, pq, pa, pu, pe⟩ ⟨9, true, 0, 0, 0, [⟨pn, 1, 1⟩], rs, [], []⟩ U5 U6 U7 U8 (some ⟨w6.heap.size, 0, none⟩) A10 none none q5 q6 q7 q8 1 c10 0 0 _ HNa.out HMa.out HLQ.out) HSa ?_
      intro wb HBb HSb
      go_wp2
      go_ret
      exact ⟨rfl, HSb.out.below⟩
end Go.Proofs.YtlkneoednkhleaaGreatDoor
