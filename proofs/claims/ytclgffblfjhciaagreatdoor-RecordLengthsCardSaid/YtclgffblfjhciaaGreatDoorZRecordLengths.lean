/-
  The law RecordLengths: an address of another length than its type's is told, at the length's place; a name that ends elsewhere, too: the walk.
-/
import Derived.Test.YtclgffblfjhciaaGreatDoorGs
import Derived.Test.YtclgffblfjhciaaGreatDoorZPlayN
import Derived.Test.YtclgffblfjhciaaGreatDoorGr
namespace Go.Proofs.YtclgffblfjhciaaGreatDoor
open Go.RowKit Go.Proofs.YtclgffblfjhciaaGreatDoorW.PrintWords
set_option linter.unusedVariables false
set_option linter.unusedSimpArgs false
set_option maxRecDepth 100000
set_option maxHeartbeats 1000000

def headL (k n : Int) : List Int := [0, k / 256, k % 256, 0, 1, 0, 0, 0, 5, 0, n]
theorem headL_wire (k n : Int) (hn : 0 ≤ n) (hn2 : n < 40) (data : List Int) : headL k n ++ data = Qu.wire ⟨[], k, 1⟩ ++ (be32 5 ++ (be16 n ++ data)) := by
  have h1 : be16 n = [0, n] := by
    unfold be16
    rw [show n / 256 = 0 by omega, show n % 256 = n by omega]
  have h2 : nameW [] = [0] := by decide +kernel
  unfold Qu.wire headL
  rw [h1]
  show _ = nameW [] ++ be16 k ++ be16 1 ++ _
  rw [h2]
  rfl
/-- What is answered. -/
theorem lengths_law (k n : Int) (hk : k = 1 ∨ k = 28) (hn : 0 ≤ n) (hn2 : n < 40) (data : List Int) (hd : data.length = 40) :
    ∃ r, recR (headL k n ++ data) 0 = (r, if szT k = n then (11 + n, .none) else (0, .fault 9 7)) := by
  have hq : Qu.right ⟨[], k, 1⟩ = true := by rcases hk with rfl | rfl <;> decide +kernel
  obtain ⟨h1, h2⟩ := recR_head ⟨[], k, 1⟩ hq 5 (xs := headL k n ++ data) (a := 0) (rest := be16 n ++ data) (by decide) (headL_wire k n hn hn2 data)
  have hl : ((Qu.wire ⟨[], k, 1⟩).length : Int) = 5 := by
    have h2 : nameW [] = [0] := by decide +kernel
    show ((nameW [] ++ be16 k ++ be16 1).length : Int) = 5
    rw [h2]; rfl
  rw [hl] at h1 h2
  have h3 := fillR_eq (m := n) ⟨[], k, 1, 5, Ad.zero, [], []⟩ (by decide) h2 hn (by omega)
  rw [h1]
  dsimp only at h3 ⊢
  rw [if_neg (by rcases hk with rfl | rfl <;> decide), if_neg (by rcases hk with rfl | rfl <;> decide)] at h3
  have e : (0 : Int) + 5 + 4 + 2 + n = 11 + n := by omega
  rw [e] at h3
  by_cases hz : szT k = n
  · rw [if_neg (by simpa using hz)] at h3
    rw [h3, if_pos hz, if_neg (by simp)]
    exact ⟨_, rfl⟩
  · rw [if_pos hz] at h3
    rw [h3, if_neg hz, if_pos (by simp)]
    exact ⟨_, rfl⟩
theorem lengths_name (s : L) (hs : rightL s = true) (n : Int) (hn : 0 ≤ n) (hn2 : n < 40) (data : List Int) (hd : data.length = 40) :
    ∃ r, recR (headL 5 n ++ (nameW s ++ data)) 0 = (r, if n = (nameW s).length then (11 + n, .none) else (0, .fault 9 7)) := by
  have hq : Qu.right ⟨[], 5, 1⟩ = true := by decide +kernel
  obtain ⟨h1, h2⟩ := recR_head ⟨[], 5, 1⟩ hq 5 (xs := headL 5 n ++ (nameW s ++ data)) (a := 0) (rest := be16 n ++ (nameW s ++ data)) (by decide) (headL_wire 5 n hn hn2 _)
  have hl : ((Qu.wire ⟨[], 5, 1⟩).length : Int) = 5 := by decide +kernel
  rw [hl] at h1 h2
  have h3 := fillR_eq (m := n) ⟨[], 5, 1, 5, Ad.zero, [], []⟩ (by decide) h2 hn (by rw [List.length_append]; omega)
  obtain ⟨-, -, h4, -, -⟩ := fillR_head (m := n) ⟨[], 5, 1, 5, Ad.zero, [], []⟩ (by decide) h2 hn (by rw [List.length_append]; omega)
  have h5 := readN_drop s hs (a := 0 + 5 + 4 + 2) (by decide) h4
  rw [h5] at h3
  rw [h1]
  dsimp only at h3 ⊢
  rw [if_pos rfl, if_neg (by simp)] at h3
  by_cases hz : n = (nameW s).length
  · rw [if_neg (by rw [← hz]; simp)] at h3
    rw [h3, if_pos hz, if_neg (by simp)]
    exact ⟨_, rfl⟩
  · rw [if_pos (by omega)] at h3
    rw [h3, if_neg hz, if_pos (by simp)]
    exact ⟨_, rfl⟩
theorem byts_app {xs ys : List Int} (h : Byts xs) (h2 : Byts ys) : Byts (xs ++ ys) := fun x hx => (List.mem_append.1 hx).elim (h x) (h2 x)
theorem byts_zeros (n : Nat) : Byts (List.replicate n 0) := fun x hx => by rw [List.eq_of_mem_replicate hx]; decide
theorem byts_name (l : L) (h : rightL l = true) : Byts (nameW l) := by
  intro x hx
  unfold nameW at hx
  rcases List.mem_append.1 hx with hx | hx
  · unfold wireOf at hx
    obtain ⟨ys, hy, hx⟩ := List.mem_flatten.1 hx
    obtain ⟨z, hz, rfl⟩ := List.mem_map.1 hy
    rcases List.mem_cons.1 hx with rfl | hx
    · have := mem_sz hz
      have := (right_labels l h).1
      omega
    · obtain ⟨b, -, rfl⟩ := List.mem_map.1 hx
      have := b.toNat_lt
      omega
  · rw [List.mem_singleton.1 hx]; decide
theorem headL_byts (k n : Int) (hk : 0 ≤ k ∧ k ≤ 65535) (hn : 0 ≤ n ∧ n ≤ 255) : Byts (headL k n) := by
  intro x hx
  unfold headL at hx
  simp only [List.mem_cons, List.not_mem_nil, or_false] at hx
  rcases hx with rfl | rfl | rfl | rfl | rfl | rfl | rfl | rfl | rfl | rfl | rfl <;> omega
theorem recordLengths_walk (kd : Int) (l1 : -9223372036854775808 ≤ kd) (u1 : kd ≤ 9223372036854775807) (n0 : Int) (l2 : -9223372036854775808 ≤ n0) (u2 : n0 ≤ 9223372036854775807) (s : ByteArray) (hs : s.size ≤ 9223372036854775807) (w : World) (hE : Env w) :
    Calls Tryz.prog 3 #[.int .i64 kd, .int .i64 n0, .string s] w fun e w' => e = .returned (.bool true) ∧ Below w.heap.size w w' := by
  have HS := Kp.mk (St.start hE)
  obtain ⟨N, hN, hk⟩ := umod kd 3 (by decide) (by decide)
  obtain ⟨M, hM, hm⟩ := umod n0 40 (by decide) (by decide)
  have hmk : ∀ w, (Instr.makeSlice 24 (.int .i64 40) (.int .i64 40)).run Tryz.prog w = .ok (.slice (some ⟨w.heap.size, 0, none⟩) 40 40) (w.alloc (.cells ((List.replicate 40 (0 : Int)).map (Value.int .u8)).toArray 5)) := fun _ => by kernel_rfl
  obtain ⟨zs, hzs⟩ : ∃ zs, List.replicate 40 (0 : Int) = zs := ⟨_, rfl⟩
  have hzl : zs.length = 40 := by rw [← hzs]; rfl
  have HZB : Kp (Byts zs) := ⟨hzs ▸ byts_zeros 40⟩
  have HZL := Kp.mk hzl
  have HZS := Kp.mk hzs
  rw [hzs] at hmk
  clear hE hzs hzl
  match N, hN with
  | 0, _ =>
    have hL := lit_bytes (w.alloc (.cells #[.int .i64 1, .int .i64 28, .int .i64 5] 3)) w.heap.size (headL 1 M) (by simp) (by show 11 ≤ 9223372036854775807; decide)
    have hz1 : (w.alloc (.cells #[.int .i64 1, .int .i64 28, .int .i64 5] 3)).heap.size = w.heap.size + 1 := by simp
    rw [hz1] at hL
    have HL := Kp.mk hL
    have HS1 := Kp.mk ((HS.out.alloc (.cells #[.int .i64 1, .int .i64 28, .int .i64 5] 3)).alloc (.cells ((headL 1 M).map (Value.int .u8)).toArray 5))
    clear hL hz1
    go_enter Tryz.func3, Tryz.ntmps3
    go_wp2_with (fail)
    refine b_ (at_calls 7 9 _) HS1 ?_
    intro w2 HB2 HS2
    have hf : failV (.fault 9 7) = .agg #[.int .i64 7, .int .i64 9, .bool true] := rfl
    rw [hf]
    clear hf
    have HL2 := Kp.mk (Kd.R_below HL.out HB2.out)
    have HW := Kp.mk (heap_new w2 (.cells #[.int .i64 7, .int .i64 9, .bool true] 27))
    have HS2a := Kp.mk (HS2.out.alloc (.cells #[.int .i64 7, .int .i64 9, .bool true] 27))
    have HBa := Kp.mk ((Below.refl w2.heap.size w2).alloc (Nat.le_refl _) (.cells #[.int .i64 7, .int .i64 9, .bool true] 27))
    have hD := lit_bytes (w2.alloc (.cells #[.int .i64 7, .int .i64 9, .bool true] 27)) w.heap.size zs HS2a.out.size (by rw [HZL.out]; decide)
    have hz2 : (w2.alloc (.cells #[.int .i64 7, .int .i64 9, .bool true] 27)).heap.size = w2.heap.size + 1 := by simp
    have HS3 := Kp.mk (HS2a.out.alloc (.cells (zs.map (Value.int .u8)).toArray 5))
    have HBb := Kp.mk ((Below.refl _ (w2.alloc (.cells #[.int .i64 7, .int .i64 9, .bool true] 27))).alloc (Nat.le_refl _) (.cells (zs.map (Value.int .u8)).toArray 5))
    have HW3 := Kp.mk ((HBb.out.block _ (heap_lt HW.out)).trans HW.out)
    have HL3 := Kp.mk (Kd.R_below (Kd.R_below HL2.out HBa.out) HBb.out)
    have HDC := Kp.mk (R_C hD).1
    rw [HZL.out, hz2] at HDC
    clear hD HL2 HBa HBb hz2
    by_cases hok : szT 1 = (M : Int)
    · have bm : ((M : Int) == 4) = true := by have : szT 1 = 4 := rfl; simp; omega
      have HOK := Kp.mk hok
      clear hok
      go_wp2_with (at_builtin; (with_reducible refine gate_builtin (b := .append) (xs := #[.tmp 67, .tmp 68]) rfl ?_); go_must (refine app_bytesG (w0 := w) (base := w.heap.size) (s := .tmp 67) (x := .tmp 68) (v := .slice (some ⟨w.heap.size + 1, 0, none⟩) 11 11) rfl rfl (headL 1 M) (zs) _ 40 40 rfl rfl HL3.out HDC.out HS3.out.below HS3.out.size (by show 11 + 40 ≤ 140737488355328; decide) ?_))
      intro v5 w5 HR5 HB5 hs5 HG5
      have HW5 := Kp.mk (blk_grown HW3.out HG5.out (Kd.R_ne HL3.out HW3.out (by decide)))
      obtain ⟨xs, hxs⟩ : ∃ xs, headL 1 M ++ (zs) = xs := ⟨_, rfl⟩
      obtain ⟨r, hr⟩ := lengths_law 1 M (by decide) (by omega) (by omega) zs HZL.out
      rw [hxs] at HR5 hr
      have hxl : xs.length ≤ 400 := by rw [← hxs, List.length_append]; rw [HZL.out]; show 11 + 40 ≤ 400; decide
      have HXB : Kp (Byts xs) := ⟨by rw [← hxs]; exact byts_app (headL_byts _ _ (by decide) (by omega)) (HZB.out)⟩
      obtain ⟨A5, c5, rfl⟩ := Kd.R_slice HR5.out
      have HS5 : Kp (St w w5) := ⟨⟨HB5.out, HS.out.env.below HB5.out⟩⟩
      have HC5 := Kp.mk (R_C HR5.out).1
      have hc5 := (R_C HR5.out).2
      have hcm5 := R_cap HR5.out
      clear hxs HR5 HG5 HDC hmk
      rw [if_pos HOK.out] at hr
      have HRR := Kp.mk hr
      clear hr
      go_wp2_with (fail)
      refine (recRead_calls A5 c5 xs 0 _ r _ _ HC5.out HXB.out hc5 hcm5 HS5.out.env (by omega) (by decide) HRR.out).mono ?_
      rintro e6 w6 ⟨dv, v6, rfl, hR6, hM6, hB6⟩
      obtain ⟨A6, c6, rfl⟩ := Kd.R_slice hR6
      obtain rfl := er_open_none (erK.K_of_M hM6)
      have HS6 := Kp.mk (HS5.out.step hB6)
      have HZ6 := Kp.mk (HS6.out.below.alloc HS6.out.size (.cells #[.string ⟨#[]⟩, .int .i64 0, .int .i64 0, .int .u32 0, .bool false, .int .u8 0, .int .u8 0, .int .u8 0, .int .u8 0, .int .u8 0, .int .u8 0, .int .u8 0, .int .u8 0, .int .u8 0, .int .u8 0, .int .u8 0, .int .u8 0, .int .u8 0, .int .u8 0, .int .u8 0, .int .u8 0, .string ⟨#[]⟩, .slice none 0 0] 37))
      clear hR6 hM6 hB6
      go_wp2_with (with_reducible refine st_blk (w0 := w) (base := w.heap.size) rfl 37 (.tmp 14) (.tmp 71) rfl rfl w6.heap.size _ rfl rfl ⟨heap_new _ _⟩ (by kernel_rfl) (by kernel_rfl) (by kernel_rfl) HZ6 HS6.out.size ?_)
      intro w7 Hg7 HO7 HB7 hs7
      have HS7 : Kp (St w w7) := ⟨⟨HB7.out, HS.out.env.below HB7.out⟩⟩
      clear hs7
      go_wp2_with (fail)
      refine b_ (awake13_calls _ HS7.out.env) HS7 ?_
      intro w8 HB8 HS8
      go_wp2
      go_ret
      exact ⟨rfl, HS8.out.below⟩
    · have bm : ((M : Int) == 4) = false := by have : szT 1 = 4 := rfl; simp; omega
      have HOK := Kp.mk hok
      clear hok
      go_wp2_with (at_builtin; (with_reducible refine gate_builtin (b := .append) (xs := #[.tmp 67, .tmp 68]) rfl ?_); go_must (refine app_bytesG (w0 := w) (base := w.heap.size) (s := .tmp 67) (x := .tmp 68) (v := .slice (some ⟨w.heap.size + 1, 0, none⟩) 11 11) rfl rfl (headL 1 M) (zs) _ 40 40 rfl rfl HL3.out HDC.out HS3.out.below HS3.out.size (by show 11 + 40 ≤ 140737488355328; decide) ?_))
      intro v5 w5 HR5 HB5 hs5 HG5
      have HW5 := Kp.mk (blk_grown HW3.out HG5.out (Kd.R_ne HL3.out HW3.out (by decide)))
      obtain ⟨xs, hxs⟩ : ∃ xs, headL 1 M ++ (zs) = xs := ⟨_, rfl⟩
      obtain ⟨r, hr⟩ := lengths_law 1 M (by decide) (by omega) (by omega) zs HZL.out
      rw [hxs] at HR5 hr
      have hxl : xs.length ≤ 400 := by rw [← hxs, List.length_append]; rw [HZL.out]; show 11 + 40 ≤ 400; decide
      have HXB : Kp (Byts xs) := ⟨by rw [← hxs]; exact byts_app (headL_byts _ _ (by decide) (by omega)) (HZB.out)⟩
      obtain ⟨A5, c5, rfl⟩ := Kd.R_slice HR5.out
      have HS5 : Kp (St w w5) := ⟨⟨HB5.out, HS.out.env.below HB5.out⟩⟩
      have HC5 := Kp.mk (R_C HR5.out).1
      have hc5 := (R_C HR5.out).2
      have hcm5 := R_cap HR5.out
      clear hxs HR5 HG5 HDC hmk
      rw [if_neg HOK.out] at hr
      have HRR := Kp.mk hr
      clear hr
      go_wp2_with (fail)
      refine (recRead_calls A5 c5 xs 0 _ r _ _ HC5.out HXB.out hc5 hcm5 HS5.out.env (by omega) (by decide) HRR.out).mono ?_
      rintro e6 w6 ⟨dv, v6, rfl, hR6, hM6, hB6⟩
      obtain ⟨A6, c6, rfl⟩ := Kd.R_slice hR6
      have HE6 := Kp.mk (erK.K_of_M hM6)
      have HW6 := Kp.mk ((hB6.block _ (heap_lt HW5.out)).trans HW5.out)
      have HS6 := Kp.mk (HS5.out.step hB6)
      have HZ6 := Kp.mk (HS6.out.below.alloc HS6.out.size (.cells #[.string ⟨#[]⟩, .int .i64 0, .int .i64 0, .int .u32 0, .bool false, .int .u8 0, .int .u8 0, .int .u8 0, .int .u8 0, .int .u8 0, .int .u8 0, .int .u8 0, .int .u8 0, .int .u8 0, .int .u8 0, .int .u8 0, .int .u8 0, .int .u8 0, .int .u8 0, .int .u8 0, .int .u8 0, .string ⟨#[]⟩, .slice none 0 0] 37))
      have HBz := Kp.mk ((Below.refl w6.heap.size w6).alloc (Nat.le_refl _) (.cells #[.string ⟨#[]⟩, .int .i64 0, .int .i64 0, .int .u32 0, .bool false, .int .u8 0, .int .u8 0, .int .u8 0, .int .u8 0, .int .u8 0, .int .u8 0, .int .u8 0, .int .u8 0, .int .u8 0, .int .u8 0, .int .u8 0, .int .u8 0, .int .u8 0, .int .u8 0, .int .u8 0, .int .u8 0, .string ⟨#[]⟩, .slice none 0 0] 37))
      clear hR6 hM6 hB6
      go_wp2_with (with_reducible refine st_blk (w0 := w) (base := w.heap.size) rfl 37 (.tmp 14) (.tmp 71) rfl rfl w6.heap.size _ rfl rfl ⟨heap_new _ _⟩ (by kernel_rfl) (by kernel_rfl) (by kernel_rfl) HZ6 HS6.out.size ?_)
      intro w7 Hg7 HO7 HB7 hs7
      have HS7 : Kp (St w w7) := ⟨⟨HB7.out, HS.out.env.below HB7.out⟩⟩
      have HB67 : Kp (Below w6.heap.size w6 w7) := ⟨⟨HB7.out.os.trans HS6.out.below.os.symm, HB7.out.tape.trans HS6.out.below.tape.symm, HB7.out.output.trans HS6.out.below.output.symm, by rw [hs7]; simp, fun k hk => (HO7.out k (by omega)).trans (HBz.out.block k hk)⟩⟩
      have HE7 := Kp.mk (erK.K_below HB67.out HE6.out)
      have HW7 := Kp.mk ((HB67.out.block _ (heap_lt HW6.out)).trans HW6.out)
      clear hs7
      go_wp2_with (fail)
      refine b_ (awake13_calls _ HS7.out.env) HS7 ?_
      intro w8 HB8 HS8
      have HE8 := Kp.mk (erK.K_below HB8.out HE7.out)
      have hW8 := (HB8.out.block _ (heap_lt HW7.out)).trans HW7.out
      have q0 := blk_cell hW8 0
      have q1 := blk_cell hW8 1
      have q2 := blk_cell hW8 2
      clear hW8
      go_wp2_with (fail)
      refine b_ (same_calls (.fault 9 7) _ _ HE8.out HS8.out.env (.inr (by decide))) HS8 ?_
      intro w9 HB9 HS9
      go_wp2
      go_ret
      exact ⟨rfl, HS9.out.below⟩
  | 1, _ =>
    have hL := lit_bytes (w.alloc (.cells #[.int .i64 1, .int .i64 28, .int .i64 5] 3)) w.heap.size (headL 28 M) (by simp) (by show 11 ≤ 9223372036854775807; decide)
    have hz1 : (w.alloc (.cells #[.int .i64 1, .int .i64 28, .int .i64 5] 3)).heap.size = w.heap.size + 1 := by simp
    rw [hz1] at hL
    have HL := Kp.mk hL
    have HS1 := Kp.mk ((HS.out.alloc (.cells #[.int .i64 1, .int .i64 28, .int .i64 5] 3)).alloc (.cells ((headL 28 M).map (Value.int .u8)).toArray 5))
    clear hL hz1
    go_enter Tryz.func3, Tryz.ntmps3
    go_wp2_with (fail)
    refine b_ (at_calls 7 9 _) HS1 ?_
    intro w2 HB2 HS2
    have hf : failV (.fault 9 7) = .agg #[.int .i64 7, .int .i64 9, .bool true] := rfl
    rw [hf]
    clear hf
    have HL2 := Kp.mk (Kd.R_below HL.out HB2.out)
    have HW := Kp.mk (heap_new w2 (.cells #[.int .i64 7, .int .i64 9, .bool true] 27))
    have HS2a := Kp.mk (HS2.out.alloc (.cells #[.int .i64 7, .int .i64 9, .bool true] 27))
    have HBa := Kp.mk ((Below.refl w2.heap.size w2).alloc (Nat.le_refl _) (.cells #[.int .i64 7, .int .i64 9, .bool true] 27))
    have hD := lit_bytes (w2.alloc (.cells #[.int .i64 7, .int .i64 9, .bool true] 27)) w.heap.size zs HS2a.out.size (by rw [HZL.out]; decide)
    have hz2 : (w2.alloc (.cells #[.int .i64 7, .int .i64 9, .bool true] 27)).heap.size = w2.heap.size + 1 := by simp
    have HS3 := Kp.mk (HS2a.out.alloc (.cells (zs.map (Value.int .u8)).toArray 5))
    have HBb := Kp.mk ((Below.refl _ (w2.alloc (.cells #[.int .i64 7, .int .i64 9, .bool true] 27))).alloc (Nat.le_refl _) (.cells (zs.map (Value.int .u8)).toArray 5))
    have HW3 := Kp.mk ((HBb.out.block _ (heap_lt HW.out)).trans HW.out)
    have HL3 := Kp.mk (Kd.R_below (Kd.R_below HL2.out HBa.out) HBb.out)
    have HDC := Kp.mk (R_C hD).1
    rw [HZL.out, hz2] at HDC
    clear hD HL2 HBa HBb hz2
    by_cases hok : szT 28 = (M : Int)
    · have bm : ((M : Int) == 16) = true := by have : szT 28 = 16 := rfl; simp; omega
      have HOK := Kp.mk hok
      clear hok
      go_wp2_with (at_builtin; (with_reducible refine gate_builtin (b := .append) (xs := #[.tmp 67, .tmp 68]) rfl ?_); go_must (refine app_bytesG (w0 := w) (base := w.heap.size) (s := .tmp 67) (x := .tmp 68) (v := .slice (some ⟨w.heap.size + 1, 0, none⟩) 11 11) rfl rfl (headL 28 M) (zs) _ 40 40 rfl rfl HL3.out HDC.out HS3.out.below HS3.out.size (by show 11 + 40 ≤ 140737488355328; decide) ?_))
      intro v5 w5 HR5 HB5 hs5 HG5
      have HW5 := Kp.mk (blk_grown HW3.out HG5.out (Kd.R_ne HL3.out HW3.out (by decide)))
      obtain ⟨xs, hxs⟩ : ∃ xs, headL 28 M ++ (zs) = xs := ⟨_, rfl⟩
      obtain ⟨r, hr⟩ := lengths_law 28 M (by decide) (by omega) (by omega) zs HZL.out
      rw [hxs] at HR5 hr
      have hxl : xs.length ≤ 400 := by rw [← hxs, List.length_append]; rw [HZL.out]; show 11 + 40 ≤ 400; decide
      have HXB : Kp (Byts xs) := ⟨by rw [← hxs]; exact byts_app (headL_byts _ _ (by decide) (by omega)) (HZB.out)⟩
      obtain ⟨A5, c5, rfl⟩ := Kd.R_slice HR5.out
      have HS5 : Kp (St w w5) := ⟨⟨HB5.out, HS.out.env.below HB5.out⟩⟩
      have HC5 := Kp.mk (R_C HR5.out).1
      have hc5 := (R_C HR5.out).2
      have hcm5 := R_cap HR5.out
      clear hxs HR5 HG5 HDC hmk
      rw [if_pos HOK.out] at hr
      have HRR := Kp.mk hr
      clear hr
      go_wp2_with (fail)
      refine (recRead_calls A5 c5 xs 0 _ r _ _ HC5.out HXB.out hc5 hcm5 HS5.out.env (by omega) (by decide) HRR.out).mono ?_
      rintro e6 w6 ⟨dv, v6, rfl, hR6, hM6, hB6⟩
      obtain ⟨A6, c6, rfl⟩ := Kd.R_slice hR6
      obtain rfl := er_open_none (erK.K_of_M hM6)
      have HS6 := Kp.mk (HS5.out.step hB6)
      have HZ6 := Kp.mk (HS6.out.below.alloc HS6.out.size (.cells #[.string ⟨#[]⟩, .int .i64 0, .int .i64 0, .int .u32 0, .bool false, .int .u8 0, .int .u8 0, .int .u8 0, .int .u8 0, .int .u8 0, .int .u8 0, .int .u8 0, .int .u8 0, .int .u8 0, .int .u8 0, .int .u8 0, .int .u8 0, .int .u8 0, .int .u8 0, .int .u8 0, .int .u8 0, .string ⟨#[]⟩, .slice none 0 0] 37))
      clear hR6 hM6 hB6
      go_wp2_with (with_reducible refine st_blk (w0 := w) (base := w.heap.size) rfl 37 (.tmp 14) (.tmp 71) rfl rfl w6.heap.size _ rfl rfl ⟨heap_new _ _⟩ (by kernel_rfl) (by kernel_rfl) (by kernel_rfl) HZ6 HS6.out.size ?_)
      intro w7 Hg7 HO7 HB7 hs7
      have HS7 : Kp (St w w7) := ⟨⟨HB7.out, HS.out.env.below HB7.out⟩⟩
      clear hs7
      go_wp2_with (fail)
      refine b_ (awake13_calls _ HS7.out.env) HS7 ?_
      intro w8 HB8 HS8
      go_wp2
      go_ret
      exact ⟨rfl, HS8.out.below⟩
    · have bm : ((M : Int) == 16) = false := by have : szT 28 = 16 := rfl; simp; omega
      have HOK := Kp.mk hok
      clear hok
      go_wp2_with (at_builtin; (with_reducible refine gate_builtin (b := .append) (xs := #[.tmp 67, .tmp 68]) rfl ?_); go_must (refine app_bytesG (w0 := w) (base := w.heap.size) (s := .tmp 67) (x := .tmp 68) (v := .slice (some ⟨w.heap.size + 1, 0, none⟩) 11 11) rfl rfl (headL 28 M) (zs) _ 40 40 rfl rfl HL3.out HDC.out HS3.out.below HS3.out.size (by show 11 + 40 ≤ 140737488355328; decide) ?_))
      intro v5 w5 HR5 HB5 hs5 HG5
      have HW5 := Kp.mk (blk_grown HW3.out HG5.out (Kd.R_ne HL3.out HW3.out (by decide)))
      obtain ⟨xs, hxs⟩ : ∃ xs, headL 28 M ++ (zs) = xs := ⟨_, rfl⟩
      obtain ⟨r, hr⟩ := lengths_law 28 M (by decide) (by omega) (by omega) zs HZL.out
      rw [hxs] at HR5 hr
      have hxl : xs.length ≤ 400 := by rw [← hxs, List.length_append]; rw [HZL.out]; show 11 + 40 ≤ 400; decide
      have HXB : Kp (Byts xs) := ⟨by rw [← hxs]; exact byts_app (headL_byts _ _ (by decide) (by omega)) (HZB.out)⟩
      obtain ⟨A5, c5, rfl⟩ := Kd.R_slice HR5.out
      have HS5 : Kp (St w w5) := ⟨⟨HB5.out, HS.out.env.below HB5.out⟩⟩
      have HC5 := Kp.mk (R_C HR5.out).1
      have hc5 := (R_C HR5.out).2
      have hcm5 := R_cap HR5.out
      clear hxs HR5 HG5 HDC hmk
      rw [if_neg HOK.out] at hr
      have HRR := Kp.mk hr
      clear hr
      go_wp2_with (fail)
      refine (recRead_calls A5 c5 xs 0 _ r _ _ HC5.out HXB.out hc5 hcm5 HS5.out.env (by omega) (by decide) HRR.out).mono ?_
      rintro e6 w6 ⟨dv, v6, rfl, hR6, hM6, hB6⟩
      obtain ⟨A6, c6, rfl⟩ := Kd.R_slice hR6
      have HE6 := Kp.mk (erK.K_of_M hM6)
      have HW6 := Kp.mk ((hB6.block _ (heap_lt HW5.out)).trans HW5.out)
      have HS6 := Kp.mk (HS5.out.step hB6)
      have HZ6 := Kp.mk (HS6.out.below.alloc HS6.out.size (.cells #[.string ⟨#[]⟩, .int .i64 0, .int .i64 0, .int .u32 0, .bool false, .int .u8 0, .int .u8 0, .int .u8 0, .int .u8 0, .int .u8 0, .int .u8 0, .int .u8 0, .int .u8 0, .int .u8 0, .int .u8 0, .int .u8 0, .int .u8 0, .int .u8 0, .int .u8 0, .int .u8 0, .int .u8 0, .string ⟨#[]⟩, .slice none 0 0] 37))
      have HBz := Kp.mk ((Below.refl w6.heap.size w6).alloc (Nat.le_refl _) (.cells #[.string ⟨#[]⟩, .int .i64 0, .int .i64 0, .int .u32 0, .bool false, .int .u8 0, .int .u8 0, .int .u8 0, .int .u8 0, .int .u8 0, .int .u8 0, .int .u8 0, .int .u8 0, .int .u8 0, .int .u8 0, .int .u8 0, .int .u8 0, .int .u8 0, .int .u8 0, .int .u8 0, .int .u8 0, .string ⟨#[]⟩, .slice none 0 0] 37))
      clear hR6 hM6 hB6
      go_wp2_with (with_reducible refine st_blk (w0 := w) (base := w.heap.size) rfl 37 (.tmp 14) (.tmp 71) rfl rfl w6.heap.size _ rfl rfl ⟨heap_new _ _⟩ (by kernel_rfl) (by kernel_rfl) (by kernel_rfl) HZ6 HS6.out.size ?_)
      intro w7 Hg7 HO7 HB7 hs7
      have HS7 : Kp (St w w7) := ⟨⟨HB7.out, HS.out.env.below HB7.out⟩⟩
      have HB67 : Kp (Below w6.heap.size w6 w7) := ⟨⟨HB7.out.os.trans HS6.out.below.os.symm, HB7.out.tape.trans HS6.out.below.tape.symm, HB7.out.output.trans HS6.out.below.output.symm, by rw [hs7]; simp, fun k hk => (HO7.out k (by omega)).trans (HBz.out.block k hk)⟩⟩
      have HE7 := Kp.mk (erK.K_below HB67.out HE6.out)
      have HW7 := Kp.mk ((HB67.out.block _ (heap_lt HW6.out)).trans HW6.out)
      clear hs7
      go_wp2_with (fail)
      refine b_ (awake13_calls _ HS7.out.env) HS7 ?_
      intro w8 HB8 HS8
      have HE8 := Kp.mk (erK.K_below HB8.out HE7.out)
      have hW8 := (HB8.out.block _ (heap_lt HW7.out)).trans HW7.out
      have q0 := blk_cell hW8 0
      have q1 := blk_cell hW8 1
      have q2 := blk_cell hW8 2
      clear hW8
      go_wp2_with (fail)
      refine b_ (same_calls (.fault 9 7) _ _ HE8.out HS8.out.env (.inr (by decide))) HS8 ?_
      intro w9 HB9 HS9
      go_wp2
      go_ret
      exact ⟨rfl, HS9.out.below⟩
  | 2, _ =>
    have hL := lit_bytes (w.alloc (.cells #[.int .i64 1, .int .i64 28, .int .i64 5] 3)) w.heap.size (headL 5 M) (by simp) (by show 11 ≤ 9223372036854775807; decide)
    have hz1 : (w.alloc (.cells #[.int .i64 1, .int .i64 28, .int .i64 5] 3)).heap.size = w.heap.size + 1 := by simp
    rw [hz1] at hL
    have HL := Kp.mk hL
    have HS1 := Kp.mk ((HS.out.alloc (.cells #[.int .i64 1, .int .i64 28, .int .i64 5] 3)).alloc (.cells ((headL 5 M).map (Value.int .u8)).toArray 5))
    clear hL hz1
    go_enter Tryz.func3, Tryz.ntmps3
    go_wp2_with (fail)
    refine b_ (at_calls 7 9 _) HS1 ?_
    intro w2 HB2 HS2
    have hf : failV (.fault 9 7) = .agg #[.int .i64 7, .int .i64 9, .bool true] := rfl
    rw [hf]
    clear hf
    have HL2 := Kp.mk (Kd.R_below HL.out HB2.out)
    have HW := Kp.mk (heap_new w2 (.cells #[.int .i64 7, .int .i64 9, .bool true] 27))
    have HS2a := Kp.mk (HS2.out.alloc (.cells #[.int .i64 7, .int .i64 9, .bool true] 27))
    have HBa := Kp.mk ((Below.refl w2.heap.size w2).alloc (Nat.le_refl _) (.cells #[.int .i64 7, .int .i64 9, .bool true] 27))
    have hD := lit_bytes (w2.alloc (.cells #[.int .i64 7, .int .i64 9, .bool true] 27)) w.heap.size zs HS2a.out.size (by rw [HZL.out]; decide)
    have hz2 : (w2.alloc (.cells #[.int .i64 7, .int .i64 9, .bool true] 27)).heap.size = w2.heap.size + 1 := by simp
    have HS3 := Kp.mk (HS2a.out.alloc (.cells (zs.map (Value.int .u8)).toArray 5))
    have HBb := Kp.mk ((Below.refl _ (w2.alloc (.cells #[.int .i64 7, .int .i64 9, .bool true] 27))).alloc (Nat.le_refl _) (.cells (zs.map (Value.int .u8)).toArray 5))
    have HW3 := Kp.mk ((HBb.out.block _ (heap_lt HW.out)).trans HW.out)
    have HL3 := Kp.mk (Kd.R_below (Kd.R_below HL2.out HBa.out) HBb.out)
    have HDC := Kp.mk (R_C hD).1
    rw [HZL.out, hz2] at HDC
    clear hD HL2 HBa HBb hz2
    obtain ⟨hpr, hpl⟩ := playN_right s.data.toList
    obtain ⟨nm, hnm⟩ : ∃ nm, playN s.data.toList = nm := ⟨_, rfl⟩
    rw [hnm] at hpr hpl
    have hwl := nameW_len nm hpr
    have HNM := Kp.mk hnm
    have HPR := Kp.mk hpr
    clear hnm hpr
    go_wp2_with (fail)
    refine b_ (playname_calls s _ hs) HS3 ?_
    intro w3 HBc HS3c
    rw [HNM.out]
    have HW3c := Kp.mk ((HBc.out.block _ (heap_lt HW3.out)).trans HW3.out)
    have HL3c := Kp.mk (Kd.R_below HL3.out HBc.out)
    go_wp2_with (fail)
    refine (rwrite_good (mkB nm) _ (by show nm.length ≤ 700; omega) HPR.out).mono ?_
    rintro e4 w4 ⟨v4, rfl, hR4, hB4⟩
    have hf0 : failV .none = .agg #[.int .i64 0, .int .i64 0, .bool false] := rfl
    rw [hf0]
    have hB4a := (Below.refl w4.heap.size w4).alloc (Nat.le_refl _) (.cells #[.int .i64 0, .int .i64 0, .bool false] 27)
    have hB34 := below_step hB4 hB4a
    have HS4 := Kp.mk (HS3c.out.step hB34)
    have HW4 := Kp.mk ((hB34.block _ (heap_lt HW3c.out)).trans HW3c.out)
    have HL4 := Kp.mk (Kd.R_mono (Kd.R_below (Kd.R_bound HL3c.out) hB34) (ok' := fun k => k < w3.heap.size) (fun _ h => h.2.2.1))
    have HR4 := Kp.mk (Kd.R_below (w1 := w4.alloc (.cells #[.int .i64 0, .int .i64 0, .bool false] 27)) hR4 hB4a)
    have HSZ := Kp.mk (hB34.size)
    obtain ⟨ns, hns⟩ : ∃ ns, nameW nm = ns := ⟨_, rfl⟩
    have hns' : wireOf (labelsOf (mkB nm).data.toList) ++ [0] = ns := hns
    rw [hns'] at HR4
    rw [hns] at hwl
    have HNS := Kp.mk hns
    obtain ⟨A4, c4, rfl⟩ := Kd.R_slice HR4.out
    have HR4l := Kp.mk (Kd.R_lower HR4.out HS3c.out.size)
    clear hf0 hB4a hB34 hR4 hB4 hns hns' HL HL3 HL3c HW3 HW3c
    go_wp2_with (at_builtin; (with_reducible refine gate_builtin (b := .append) (xs := #[.tmp 60, .const (.int .i64 40)]) rfl ?_); go_must (refine app_zerosG (n := 40) (w0 := w) (base := w.heap.size) (s := .tmp 60) (x := .const (.int .i64 40)) (v := .slice A4 ns.length c4) rfl rfl ns zs HZS.out rfl rfl (by decide) HR4l.out HS4.out.below HS4.out.size (by show ns.length + 40 ≤ _; omega) ?_))
    intro vq wq HRq HBq hsq HGq
    have HLq := Kp.mk (Kd.R_mono (ok' := fun _ => True) (Kd.R_grown HL4.out HGq.out (fun k hk e => by have := Kd.R_base HR4.out k e.symm; have := HSZ.out; omega)) (fun _ _ => trivial))
    have HWq := Kp.mk (blk_grown HW4.out HGq.out (Kd.R_ne HR4l.out HW4.out (by decide)))
    have HSq : Kp (St w wq) := ⟨⟨HBq.out, HS.out.env.below HBq.out⟩⟩
    obtain ⟨Aq, cq, rfl⟩ := Kd.R_slice HRq.out
    have HDC := Kp.mk (R_C HRq.out).1
    have hyl : (ns ++ zs).length = ns.length + 40 := by rw [List.length_append, HZL.out]
    rw [hyl] at HDC ⊢
    clear hyl HL4 HW4 HR4 HR4l HRq HGq
    by_cases hok : (M : Int) = (ns.length : Int)
    · have bm : ((M : Int) == (ns.length : Int)) = true := by simpa using hok
      have HOK := Kp.mk hok
      clear hok
      go_wp2_with (at_builtin; (with_reducible refine gate_builtin (b := .append) (xs := #[.tmp 67, .tmp 68]) rfl ?_); go_must (refine app_bytesG (w0 := w) (base := w.heap.size) (s := .tmp 67) (x := .tmp 68) (v := .slice (some ⟨w.heap.size + 1, 0, none⟩) 11 11) rfl rfl (headL 5 M) (ns ++ zs) _ (ns.length + 40) _ rfl rfl HLq.out HDC.out HSq.out.below HSq.out.size (by show 11 + (ns.length + 40) ≤ 140737488355328; omega) ?_))
      intro v5 w5 HR5 HB5 hs5 HG5
      have HW5 := Kp.mk (blk_grown HWq.out HG5.out (Kd.R_ne HLq.out HWq.out (by decide)))
      obtain ⟨xs, hxs⟩ : ∃ xs, headL 5 M ++ (ns ++ zs) = xs := ⟨_, rfl⟩
      obtain ⟨r, hr⟩ := HNS.out ▸ lengths_name nm HPR.out M (by omega) (by omega) zs HZL.out
      rw [hxs] at HR5 hr
      have hxl : xs.length ≤ 400 := by rw [← hxs, List.length_append]; rw [List.length_append, HZL.out]; show 11 + (ns.length + 40) ≤ 400; omega
      have HXB : Kp (Byts xs) := ⟨by rw [← hxs]; exact byts_app (headL_byts _ _ (by decide) (by omega)) (byts_app (HNS.out ▸ byts_name nm HPR.out) HZB.out)⟩
      obtain ⟨A5, c5, rfl⟩ := Kd.R_slice HR5.out
      have HS5 : Kp (St w w5) := ⟨⟨HB5.out, HS.out.env.below HB5.out⟩⟩
      have HC5 := Kp.mk (R_C HR5.out).1
      have hc5 := (R_C HR5.out).2
      have hcm5 := R_cap HR5.out
      clear hxs HR5 HG5 HDC hmk
      rw [if_pos HOK.out] at hr
      have HRR := Kp.mk hr
      clear hr
      go_wp2_with (fail)
      refine (recRead_calls A5 c5 xs 0 _ r _ _ HC5.out HXB.out hc5 hcm5 HS5.out.env (by omega) (by decide) HRR.out).mono ?_
      rintro e6 w6 ⟨dv, v6, rfl, hR6, hM6, hB6⟩
      obtain ⟨A6, c6, rfl⟩ := Kd.R_slice hR6
      obtain rfl := er_open_none (erK.K_of_M hM6)
      have HS6 := Kp.mk (HS5.out.step hB6)
      have HZ6 := Kp.mk (HS6.out.below.alloc HS6.out.size (.cells #[.string ⟨#[]⟩, .int .i64 0, .int .i64 0, .int .u32 0, .bool false, .int .u8 0, .int .u8 0, .int .u8 0, .int .u8 0, .int .u8 0, .int .u8 0, .int .u8 0, .int .u8 0, .int .u8 0, .int .u8 0, .int .u8 0, .int .u8 0, .int .u8 0, .int .u8 0, .int .u8 0, .int .u8 0, .string ⟨#[]⟩, .slice none 0 0] 37))
      clear hR6 hM6 hB6
      go_wp2_with (with_reducible refine st_blk (w0 := w) (base := w.heap.size) rfl 37 (.tmp 14) (.tmp 71) rfl rfl w6.heap.size _ rfl rfl ⟨heap_new _ _⟩ (by kernel_rfl) (by kernel_rfl) (by kernel_rfl) HZ6 HS6.out.size ?_)
      intro w7 Hg7 HO7 HB7 hs7
      have HS7 : Kp (St w w7) := ⟨⟨HB7.out, HS.out.env.below HB7.out⟩⟩
      clear hs7
      go_wp2_with (fail)
      refine b_ (awake13_calls _ HS7.out.env) HS7 ?_
      intro w8 HB8 HS8
      go_wp2
      go_ret
      exact ⟨rfl, HS8.out.below⟩
    · have bm : ((M : Int) == (ns.length : Int)) = false := by simpa using hok
      have HOK := Kp.mk hok
      clear hok
      go_wp2_with (at_builtin; (with_reducible refine gate_builtin (b := .append) (xs := #[.tmp 67, .tmp 68]) rfl ?_); go_must (refine app_bytesG (w0 := w) (base := w.heap.size) (s := .tmp 67) (x := .tmp 68) (v := .slice (some ⟨w.heap.size + 1, 0, none⟩) 11 11) rfl rfl (headL 5 M) (ns ++ zs) _ (ns.length + 40) _ rfl rfl HLq.out HDC.out HSq.out.below HSq.out.size (by show 11 + (ns.length + 40) ≤ 140737488355328; omega) ?_))
      intro v5 w5 HR5 HB5 hs5 HG5
      have HW5 := Kp.mk (blk_grown HWq.out HG5.out (Kd.R_ne HLq.out HWq.out (by decide)))
      obtain ⟨xs, hxs⟩ : ∃ xs, headL 5 M ++ (ns ++ zs) = xs := ⟨_, rfl⟩
      obtain ⟨r, hr⟩ := HNS.out ▸ lengths_name nm HPR.out M (by omega) (by omega) zs HZL.out
      rw [hxs] at HR5 hr
      have hxl : xs.length ≤ 400 := by rw [← hxs, List.length_append]; rw [List.length_append, HZL.out]; show 11 + (ns.length + 40) ≤ 400; omega
      have HXB : Kp (Byts xs) := ⟨by rw [← hxs]; exact byts_app (headL_byts _ _ (by decide) (by omega)) (byts_app (HNS.out ▸ byts_name nm HPR.out) HZB.out)⟩
      obtain ⟨A5, c5, rfl⟩ := Kd.R_slice HR5.out
      have HS5 : Kp (St w w5) := ⟨⟨HB5.out, HS.out.env.below HB5.out⟩⟩
      have HC5 := Kp.mk (R_C HR5.out).1
      have hc5 := (R_C HR5.out).2
      have hcm5 := R_cap HR5.out
      clear hxs HR5 HG5 HDC hmk
      rw [if_neg HOK.out] at hr
      have HRR := Kp.mk hr
      clear hr
      go_wp2_with (fail)
      refine (recRead_calls A5 c5 xs 0 _ r _ _ HC5.out HXB.out hc5 hcm5 HS5.out.env (by omega) (by decide) HRR.out).mono ?_
      rintro e6 w6 ⟨dv, v6, rfl, hR6, hM6, hB6⟩
      obtain ⟨A6, c6, rfl⟩ := Kd.R_slice hR6
      have HE6 := Kp.mk (erK.K_of_M hM6)
      have HW6 := Kp.mk ((hB6.block _ (heap_lt HW5.out)).trans HW5.out)
      have HS6 := Kp.mk (HS5.out.step hB6)
      have HZ6 := Kp.mk (HS6.out.below.alloc HS6.out.size (.cells #[.string ⟨#[]⟩, .int .i64 0, .int .i64 0, .int .u32 0, .bool false, .int .u8 0, .int .u8 0, .int .u8 0, .int .u8 0, .int .u8 0, .int .u8 0, .int .u8 0, .int .u8 0, .int .u8 0, .int .u8 0, .int .u8 0, .int .u8 0, .int .u8 0, .int .u8 0, .int .u8 0, .int .u8 0, .string ⟨#[]⟩, .slice none 0 0] 37))
      have HBz := Kp.mk ((Below.refl w6.heap.size w6).alloc (Nat.le_refl _) (.cells #[.string ⟨#[]⟩, .int .i64 0, .int .i64 0, .int .u32 0, .bool false, .int .u8 0, .int .u8 0, .int .u8 0, .int .u8 0, .int .u8 0, .int .u8 0, .int .u8 0, .int .u8 0, .int .u8 0, .int .u8 0, .int .u8 0, .int .u8 0, .int .u8 0, .int .u8 0, .int .u8 0, .int .u8 0, .string ⟨#[]⟩, .slice none 0 0] 37))
      clear hR6 hM6 hB6
      go_wp2_with (with_reducible refine st_blk (w0 := w) (base := w.heap.size) rfl 37 (.tmp 14) (.tmp 71) rfl rfl w6.heap.size _ rfl rfl ⟨heap_new _ _⟩ (by kernel_rfl) (by kernel_rfl) (by kernel_rfl) HZ6 HS6.out.size ?_)
      intro w7 Hg7 HO7 HB7 hs7
      have HS7 : Kp (St w w7) := ⟨⟨HB7.out, HS.out.env.below HB7.out⟩⟩
      have HB67 : Kp (Below w6.heap.size w6 w7) := ⟨⟨HB7.out.os.trans HS6.out.below.os.symm, HB7.out.tape.trans HS6.out.below.tape.symm, HB7.out.output.trans HS6.out.below.output.symm, by rw [hs7]; simp, fun k hk => (HO7.out k (by omega)).trans (HBz.out.block k hk)⟩⟩
      have HE7 := Kp.mk (erK.K_below HB67.out HE6.out)
      have HW7 := Kp.mk ((HB67.out.block _ (heap_lt HW6.out)).trans HW6.out)
      clear hs7
      go_wp2_with (fail)
      refine b_ (awake13_calls _ HS7.out.env) HS7 ?_
      intro w8 HB8 HS8
      have HE8 := Kp.mk (erK.K_below HB8.out HE7.out)
      have hW8 := (HB8.out.block _ (heap_lt HW7.out)).trans HW7.out
      have q0 := blk_cell hW8 0
      have q1 := blk_cell hW8 1
      have q2 := blk_cell hW8 2
      clear hW8
      go_wp2_with (fail)
      refine b_ (same_calls (.fault 9 7) _ _ HE8.out HS8.out.env (.inr (by decide))) HS8 ?_
      intro w9 HB9 HS9
      go_wp2
      go_ret
      exact ⟨rfl, HS9.out.below⟩
end Go.Proofs.YtclgffblfjhciaaGreatDoor
