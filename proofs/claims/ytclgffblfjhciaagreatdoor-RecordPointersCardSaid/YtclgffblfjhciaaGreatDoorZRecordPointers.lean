/-
  The law RecordPointers: a target that leads back to a name in the message is read there; the place behind it is that of the record's end: the walk.
-/
import Derived.Test.YtclgffblfjhciaaGreatDoorGs
import Derived.Test.YtclgffblfjhciaaGreatDoorZSameRec
import Derived.Test.YtclgffblfjhciaaGreatDoorZPlayN
import Derived.Test.YtclgffblfjhciaaGreatDoorGr
namespace Go.Proofs.YtclgffblfjhciaaGreatDoor
open Go.RowKit Go.Proofs.YtclgffblfjhciaaGreatDoorW.PrintWords
set_option linter.unusedVariables false
set_option linter.unusedSimpArgs false
set_option maxRecDepth 100000
set_option maxHeartbeats 1000000

def tailP : List Int := [0, 5, 0, 1, 0, 0, 0, 9, 0, 2, 192, 0]
/-- A pointer to the bytes' begin. -/
theorem readN_ptr (s : L) (hr : rightL s = true) {xs : List Int} {a : Int} {rest rest' : List Int} (ha : 0 < a) (h0 : xs = nameW s ++ rest) (hd : xs.drop a.toNat = [192, 0] ++ rest') : readN xs a = (s, a + 2, .none) := by
  obtain ⟨hs, hl⟩ := right_labels s hr
  have hc := cap_wire _ [] hl
  rw [capL_nil] at hc
  have hn := labels_len _ hl
  have hx := drop_len xs a.toNat _ hd (by simp)
  have hg : xs.getD a.toNat 0 = 192 := getD_drop xs _ _ _ hd
  have hto : leapTo xs a = 0 := by
    unfold leapTo
    rw [hd]
    show be [192, 0] % 16384 = 0
    decide
  have hE : leapE xs a a = .none := by
    unfold leapE
    rw [hto, if_neg (by simp at hx; omega), if_neg (by omega)]
  have hd0 : xs.drop 0 = wireOf (labelsOf s) ++ 0 :: rest := by rw [List.drop_zero, h0]; simp [nameW]
  have h := read_caps _ _ hc [] (a.toNat * 300 + 299 - (labelsOf s).length) xs 0 0 (a + 2) rest hd0 hl hs
  change readF (a.toNat * 300 + 299 - (labelsOf s).length + (labelsOf s).length + 1) xs 0 0 (a + 2) [] = _ at h
  unfold readN
  rw [if_neg (by omega), readF, if_neg (by simp at hx; omega), hg, if_neg (by decide), if_neg (by decide), if_pos (by decide), if_pos hE, hto, if_pos (by decide)]
  rw [show a.toNat * 300 + 300 = a.toNat * 300 + 299 - (labelsOf s).length + (labelsOf s).length + 1 by omega]
  rw [h, List.nil_append, name_labels, if_neg (by omega)]
theorem pointers_law (s t : L) (hs : rightL s = true) (ht : rightL t = true) :
    recR (nameW s ++ nameW t ++ tailP) (nameW s).length = ((⟨t, 5, 1, 9, Ad.zero, s, []⟩ : Rec), (((nameW s ++ nameW t ++ tailP).length : Nat) : Int), Er.none) := by
  have hq : Qu.right ⟨t, 5, 1⟩ = true := by simp [Qu.right, ht, within]
  have hl : ((Qu.wire ⟨t, 5, 1⟩).length : Int) = (nameW t).length + 4 := by
    show ((nameW t ++ be16 5 ++ be16 1).length : Int) = _
    simp only [List.length_append]
    show (((nameW t).length + 2 + 2 : Nat) : Int) = _
    omega
  have hd : (nameW s ++ nameW t ++ tailP).drop (((nameW s).length : Nat) : Int).toNat = Qu.wire ⟨t, 5, 1⟩ ++ (be32 9 ++ (be16 2 ++ [192, 0])) := by
    rw [Int.toNat_natCast, List.append_assoc, List.drop_left' rfl]
    show _ = nameW t ++ be16 5 ++ be16 1 ++ _
    rw [List.append_assoc, List.append_assoc]
    rfl
  obtain ⟨r1, r2⟩ := recR_head ⟨t, 5, 1⟩ hq 9 (by omega) hd
  rw [hl] at r1 r2
  have h3 := fillR_eq (m := 2) ⟨t, 5, 1, 9, Ad.zero, [], []⟩ (by omega) r2 (by decide) (by decide)
  obtain ⟨-, -, h4, -, -⟩ := fillR_head (m := 2) ⟨t, 5, 1, 9, Ad.zero, [], []⟩ (by omega) r2 (by decide) (by decide)
  have h5 := readN_ptr s hs (rest := nameW t ++ tailP) (rest' := []) (by omega) (List.append_assoc _ _ _) h4
  rw [h5] at h3
  dsimp only at h3
  rw [if_pos rfl, if_neg (by simp), if_neg (by simp)] at h3
  rw [r1]
  dsimp only
  rw [h3, if_neg (by simp)]
  congr 2
  simp only [List.length_append]
  show _ = (((nameW s).length + (nameW t).length + 12 : Nat) : Int)
  omega
theorem recordPointers_walk (s : ByteArray) (hs : s.size ≤ 9223372036854775807) (t : ByteArray) (ht : t.size ≤ 9223372036854775807) (w : World) (hE : Env w) :
    Calls Tryz.prog 5 #[.string s, .string t] w fun e w' => e = .returned (.bool true) ∧ Below w.heap.size w w' := by
  have HS := Kp.mk (St.start hE)
  obtain ⟨hsr, hsl⟩ := playN_right s.data.toList
  obtain ⟨htr, htl⟩ := playN_right t.data.toList
  obtain ⟨sn, hsn⟩ : ∃ sn, playN s.data.toList = sn := ⟨_, rfl⟩
  obtain ⟨tn, htn⟩ : ∃ tn, playN t.data.toList = tn := ⟨_, rfl⟩
  rw [hsn] at hsr hsl
  rw [htn] at htr htl
  have hws := nameW_len sn hsr
  have hwt := nameW_len tn htr
  have hlaw := pointers_law sn tn hsr htr
  have HBY : Kp (Byts (nameW sn ++ nameW tn ++ tailP)) := ⟨byts_app (byts_app (byts_name sn hsr) (byts_name tn htr)) (by unfold Byts tailP; decide)⟩
  have HSN := Kp.mk hsn
  have HTN := Kp.mk htn
  have HSR := Kp.mk hsr
  have HTR := Kp.mk htr
  obtain ⟨ss, hss⟩ : ∃ ss, nameW sn = ss := ⟨_, rfl⟩
  obtain ⟨ts, hts⟩ : ∃ ts, nameW tn = ts := ⟨_, rfl⟩
  rw [hss] at hws
  rw [hts] at hwt
  rw [hss, hts] at hlaw HBY
  have HLAW := Kp.mk hlaw
  have HSS := Kp.mk hss
  have HTS := Kp.mk hts
  clear hE hsn htn hsr htr hlaw hss hts
  go_enter Tryz.func5, Tryz.ntmps5
  go_wp2_with (fail)
  refine b_ (playname_calls s _ hs) HS ?_
  intro w1 HB1 HS1
  rw [HSN.out]
  go_wp2_with (fail)
  refine b_ (playname_calls t _ ht) HS1 ?_
  intro w2 HB2 HS2
  rw [HTN.out]
  go_wp2_with (fail)
  refine (rwrite_good (mkB sn) _ (by show sn.length ≤ 700; omega) HSR.out).mono ?_
  rintro e3 w3 ⟨v3, rfl, hR3, hB3⟩
  have hf0 : failV .none = .agg #[.int .i64 0, .int .i64 0, .bool false] := rfl
  rw [hf0]
  have hss' : wireOf (labelsOf (mkB sn).data.toList) ++ [0] = ss := HSS.out
  rw [hss'] at hR3
  have hB3a := (Below.refl w3.heap.size w3).alloc (Nat.le_refl _) (.cells #[.int .i64 0, .int .i64 0, .bool false] 27)
  have HS3 := Kp.mk (HS2.out.step (below_step hB3 hB3a))
  have HR3 := Kp.mk (Kd.R_lower (Kd.R_below (w1 := w3.alloc (.cells #[.int .i64 0, .int .i64 0, .bool false] 27)) hR3 hB3a) HS2.out.size)
  obtain ⟨A3, c3, rfl⟩ := Kd.R_slice HR3.out
  clear hR3 hB3 hB3a hss'
  go_wp2_with (fail)
  refine (rwrite_good (mkB tn) _ (by show tn.length ≤ 700; omega) HTR.out).mono ?_
  rintro e4 w4 ⟨v4, rfl, hR4, hB4⟩
  rw [hf0]
  have hts' : wireOf (labelsOf (mkB tn).data.toList) ++ [0] = ts := HTS.out
  rw [hts'] at hR4
  have hB4a := (Below.refl w4.heap.size w4).alloc (Nat.le_refl _) (.cells #[.int .i64 0, .int .i64 0, .bool false] 27)
  have HS4 := Kp.mk (HS3.out.step (below_step hB4 hB4a))
  have HR4 := Kp.mk (Kd.R_lower (Kd.R_below (w1 := w4.alloc (.cells #[.int .i64 0, .int .i64 0, .bool false] 27)) hR4 hB4a) HS3.out.size)
  have HC3 := Kp.mk (Kd.C_below (R_C HR3.out).1 (below_step hB4 hB4a))
  obtain ⟨A4, c4, rfl⟩ := Kd.R_slice HR4.out
  clear hR4 hB4 hB4a hts' HR3 hf0
  go_wp2_with (at_builtin; (with_reducible refine gate_builtin (b := .append) (xs := #[.const (.slice none 0 0), .tmp 29]) rfl ?_); go_must (refine app_bytesG (w0 := w) (base := w.heap.size) (s := .const (.slice none 0 0)) (x := .tmp 29) (v := .slice none 0 0) rfl rfl [] ss A3 ss.length c3 rfl rfl (Kd.R_nil _ _ _ _ _) HC3.out HS4.out.below HS4.out.size (by show 0 + ss.length ≤ _; omega) ?_))
  intro v5 w5 HR5 HB5 hs5 HG5
  have HR45 := Kp.mk (Kd.R_grown HR4.out HG5.out (fun k _ => by simp [Value.ownBlock]))
  obtain ⟨A5, c5, rfl⟩ := Kd.R_slice HR5.out
  have HC4 := Kp.mk (R_C HR45.out).1
  clear HG5 HR4 HR45 HC3
  go_wp2_with (at_builtin; (with_reducible refine gate_builtin (b := .append) (xs := #[.tmp 33, .tmp 34]) rfl ?_); go_must (refine app_bytes (w0 := w) (base := w.heap.size) (s := .tmp 33) (x := .tmp 34) (v := .slice A5 ss.length c5) rfl rfl ss ts A4 ts.length c4 rfl rfl HR5.out HC4.out HB5.out hs5.out (by omega) ?_))
  intro v6 w6 HR6 HB6 hs6
  obtain ⟨us, hus⟩ : ∃ us, ss ++ ts = us := ⟨_, rfl⟩
  have hul : us.length = ss.length + ts.length := by rw [← hus, List.length_append]
  rw [hus] at HR6 HLAW HBY
  have HUL := Kp.mk hul
  have hule : us.length ≤ 600 := by omega
  obtain ⟨A6, c6, rfl⟩ := Kd.R_slice HR6.out
  have hP := lit_bytes w6 w.heap.size tailP hs6.out (by decide)
  have HPC := Kp.mk (R_C hP).1
  have HR6a := Kp.mk (Kd.R_below HR6.out ((Below.refl w6.heap.size w6).alloc (Nat.le_refl _) (.cells (tailP.map (Value.int .u8)).toArray 5)))
  have HB6a := Kp.mk (HB6.out.alloc hs6.out (.cells (tailP.map (Value.int .u8)).toArray 5))
  clear hus hul hP HC4 HR5 HR6
  go_wp2_with (at_builtin; (with_reducible refine gate_builtin (b := .append) (xs := #[.tmp 36, .tmp 37]) rfl ?_); go_must (refine app_bytes (w0 := w) (base := w.heap.size) (s := .tmp 36) (x := .tmp 37) (v := .slice A6 us.length c6) rfl rfl us tailP (some ⟨w6.heap.size, 0, none⟩) 12 12 rfl rfl HR6a.out HPC.out HB6a.out (Nat.le_trans hs6.out (by simp)) (by omega) ?_))
  intro v7 w7 HR7 HB7 hs7
  obtain ⟨xs, hxs⟩ : ∃ xs, us ++ tailP = xs := ⟨_, rfl⟩
  have hxle : xs.length ≤ 140737488355328 := by rw [← hxs, List.length_append]; show us.length + 12 ≤ _; omega
  rw [hxs] at HR7 HLAW HBY
  obtain ⟨A7, c7, rfl⟩ := Kd.R_slice HR7.out
  have HS7 : Kp (St w w7) := ⟨⟨HB7.out, HS.out.env.below HB7.out⟩⟩
  have HC7 := Kp.mk (R_C HR7.out).1
  have hc7 := (R_C HR7.out).2
  have hcm7 := R_cap HR7.out
  clear hxs HR7 HR6a HPC HB6a
  go_wp2_with (fail)
  refine (recRead_calls A7 c7 xs (ss.length : Int) _ _ _ _ HC7.out HBY.out hc7 hcm7 HS7.out.env hxle (by omega) HLAW.out).mono ?_
  rintro e8 w8 ⟨dv, v8, rfl, hR8, hM8, hB8⟩
  obtain ⟨A8, c8, rfl⟩ := Kd.R_slice hR8
  obtain rfl := er_open_none (erK.K_of_M hM8)
  have HC8 := Kp.mk (R_C hR8).1
  have HS8 := Kp.mk (HS7.out.step hB8)
  have HZ8 := Kp.mk (HS8.out.below.alloc HS8.out.size (.cells #[.string ⟨#[]⟩, .int .i64 0, .int .i64 0, .int .u32 0, .bool false, .int .u8 0, .int .u8 0, .int .u8 0, .int .u8 0, .int .u8 0, .int .u8 0, .int .u8 0, .int .u8 0, .int .u8 0, .int .u8 0, .int .u8 0, .int .u8 0, .int .u8 0, .int .u8 0, .int .u8 0, .int .u8 0, .string ⟨#[]⟩, .slice none 0 0] 37))
  clear hR8 hM8 hB8
  go_wp2_with (with_reducible refine st_blk (w0 := w) (base := w.heap.size) rfl 37 (.tmp 11) (.tmp 43) rfl rfl w8.heap.size _ rfl rfl ⟨heap_new _ _⟩ (by kernel_rfl) (by kernel_rfl) (by kernel_rfl) HZ8 HS8.out.size ?_)
  intro w9 Hg9 HO9 HB9 hs9
  have hB89 := stored_new HS8.out.below HB9.out hs9 HO9.out
  have HS9 := Kp.mk (HS8.out.step hB89)
  have HC9 := Kp.mk (Kd.C_below HC8.out hB89)
  have HZ9 := Kp.mk (HS9.out.below.alloc HS9.out.size (.cells #[.string ⟨#[]⟩, .int .i64 0, .int .i64 0, .int .u32 0, .bool false, .int .u8 0, .int .u8 0, .int .u8 0, .int .u8 0, .int .u8 0, .int .u8 0, .int .u8 0, .int .u8 0, .int .u8 0, .int .u8 0, .int .u8 0, .int .u8 0, .int .u8 0, .int .u8 0, .int .u8 0, .int .u8 0, .string ⟨#[]⟩, .slice none 0 0] 37))
  clear hs9 hB89 HO9 HB9 HZ8 HC8
  go_wp2_with (with_reducible refine st_blk (w0 := w) (base := w.heap.size) rfl 37 (.tmp 14) (.tmp 48) rfl rfl w9.heap.size _ rfl rfl ⟨heap_new _ _⟩ (by kernel_rfl) (by kernel_rfl) (by kernel_rfl) HZ9 HS9.out.size ?_)
  intro wa Hga HOa HBa hsa
  have hB9a := stored_new HS9.out.below HBa.out hsa HOa.out
  have HSa := Kp.mk (HS9.out.step hB9a)
  have HCa := Kp.mk (Kd.C_below HC9.out hB9a)
  have Hg9a := Kp.mk ((hB9a.block _ (heap_lt Hg9.out)).trans Hg9.out)
  clear hsa hB9a HOa HBa HZ9 HC9 Hg9
  go_wp2_with (fail)
  refine b_ (awake13_calls _ HSa.out.env) HSa ?_
  intro wb HBb HSb
  have HCb := Kp.mk (Kd.C_below HCa.out HBb.out)
  have Hgb := Kp.mk ((HBb.out.block _ (heap_lt Hg9a.out)).trans Hg9a.out)
  have Hwb := Kp.mk ((HBb.out.block _ (heap_lt Hga.out)).trans Hga.out)
  clear HCa Hg9a Hga
  go_wp2_with (first | (with_reducible refine ld_blkG (by kernel_rfl) 37 (.tmp 11) rfl w8.heap.size rfl Hgb Tryz.underlying37 rfl (by kernel_rfl) ?_) | (with_reducible refine ld_blkG (by kernel_rfl) 37 (.tmp 14) rfl w9.heap.size rfl Hwb Tryz.underlying37 rfl (by kernel_rfl) ?_))
  refine b_ (sameRec_calls tn 5 1 9 false (fun _ => 0) (fun _ => 0) sn [] A8 none c8 0 _ (eq16_self _) HCb.out (Nat.zero_le _) (R_C (Kd.R_nil (Kd.int .u8) 5 wb 0 (fun _ => True))).1 (Nat.zero_le _)) HSb ?_
  intro wc HBc HSc
  go_wp2
  go_ret
  exact ⟨rfl, HSc.out.below⟩
end Go.Proofs.YtclgffblfjhciaaGreatDoor
