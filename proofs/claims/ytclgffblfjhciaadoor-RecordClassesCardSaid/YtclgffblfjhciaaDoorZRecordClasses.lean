/-
  The law RecordClasses: any class is told, and any type that has no form of its own, with its bytes as they are: the walk.
-/
import Derived.Test.YtclgffblfjhciaaDoorGs
import Derived.Test.YtclgffblfjhciaaDoorZSameRec
namespace Go.Proofs.YtclgffblfjhciaaDoor
open Go.RowKit Go.Proofs.YtclgffblfjhciaaDoorW.PrintWords
set_option linter.unusedVariables false
set_option linter.unusedSimpArgs false
set_option maxRecDepth 100000
set_option maxHeartbeats 1000000

def headC (k c t n : Int) : List Int := [1, 120, 0, k / 256, k % 256, c / 256, c % 256, t / 16777216, t / 65536 % 256, t / 256 % 256, t % 256, n / 256, n % 256]
theorem nameW_x : nameW [120] = [1, 120, 0] := by decide +kernel
theorem headC_wire (k c t n : Int) (data : List Int) : headC k c t n ++ data = Qu.wire ⟨[120], k, c⟩ ++ (be32 t ++ (be16 n ++ data)) := by
  unfold Qu.wire
  show _ = nameW [120] ++ be16 k ++ be16 c ++ _
  rw [nameW_x]
  rfl
theorem classes_law (k c t : Int) (hk : 0 ≤ k ∧ k ≤ 65535) (hc : 0 ≤ c ∧ c ≤ 65535) (h1 : k ≠ 1) (h5 : k ≠ 5) (h28 : k ≠ 28) (data : List Int) :
    recR (headC k c t data.length ++ data) 0 = ((⟨[120], k, c, t, Ad.zero, [], data⟩ : Rec), (13 + data.length : Int), Er.none) ∧ quR (headC k c t data.length ++ data) 0 = ((⟨[120], k, c⟩ : Qu), (7 : Int), Er.none) := by
  have hq : Qu.right ⟨[120], k, c⟩ = true := by
    have hn : rightL [120] = true := by decide +kernel
    simp [Qu.right, hn, within, hk, hc]
  have hl : ((Qu.wire ⟨[120], k, c⟩).length : Int) = 7 := by
    show ((nameW [120] ++ be16 k ++ be16 c).length : Int) = 7
    rw [nameW_x]; rfl
  obtain ⟨r1, r2⟩ := recR_head ⟨[120], k, c⟩ hq t (xs := headC k c t data.length ++ data) (a := 0) (rest := be16 data.length ++ data) (by decide) (headC_wire k c t _ data)
  have q1 := quR_drop ⟨[120], k, c⟩ hq (xs := headC k c t data.length ++ data) (a := 0) (rest := be32 t ++ (be16 data.length ++ data)) (by decide) (headC_wire k c t _ data)
  rw [hl] at r1 r2 q1
  have h3 := fillR_eq (m := data.length) ⟨[120], k, c, t, Ad.zero, [], []⟩ (by decide) r2 (by omega) (by omega)
  have hz : szT k = 0 := by unfold szT; rw [if_neg h28, if_neg h1]
  dsimp only at h3
  rw [if_neg h5, if_pos hz, Int.toNat_natCast, List.take_length] at h3
  have e : (0 : Int) + 7 + 4 + 2 + data.length = 13 + data.length := by omega
  rw [e] at h3
  refine ⟨?_, q1⟩
  rw [r1]
  dsimp only
  rw [h3, if_neg (by simp)]
theorem headC_byts (k c t n : Int) (hk : 0 ≤ k ∧ k ≤ 65535) (hc : 0 ≤ c ∧ c ≤ 65535) (ht : 0 ≤ t ∧ t ≤ 4294967295) (hn : 0 ≤ n ∧ n ≤ 65535) : Byts (headC k c t n) := by
  intro x hx
  unfold headC at hx
  simp only [List.mem_cons, List.not_mem_nil, or_false] at hx
  rcases hx with rfl | rfl | rfl | rfl | rfl | rfl | rfl | rfl | rfl | rfl | rfl | rfl | rfl <;> omega
theorem recordClasses_walk (w : World) (k0 : Int) (l1 : -9223372036854775808 ≤ k0) (u1 : k0 ≤ 9223372036854775807) (c0 : Int) (l2 : -9223372036854775808 ≤ c0) (u2 : c0 ≤ 9223372036854775807) (A : Option Addr) (n c : Nat) (ds : List Int) (hC : (Kd.int .u8).C w A n ds) (hc : n ≤ c) (hm : c ≤ 9223372036854775807) (hx : Byts ds)
    (t : Int) (l3 : 0 ≤ t) (u3 : t ≤ 4294967295) (hE : Env w) :
    Calls Tryd.prog 3 #[.int .i64 k0, .int .i64 c0, .slice A n c, .int .u32 t] w fun e w' => e = .returned (.bool true) ∧ Below w.heap.size w w' := by
  obtain rfl := (C_len hC).1
  have HS := Kp.mk (St.start hE)
  have HC := Kp.mk hC
  have HX := Kp.mk hx
  obtain ⟨N, hN, hk1⟩ := umod k0 65536 (by decide) (by decide)
  obtain ⟨M, hM, hk2⟩ := umod c0 65536 (by decide) (by decide)
  clear hE hC hx
  by_cases g1 : 500 < ds.length
  · have b1 : decide ((500 : Int) < (ds.length : Int)) = true := by simp; omega
    go_enter Tryd.func3, Tryd.ntmps3
    go_wp2_with (fail)
    refine b_ (awake13_calls _ HS.out.env) HS ?_
    intro w1 HB1 HS1
    go_wp2
    go_ret
    exact ⟨rfl, HS1.out.below⟩
  have b1 : decide ((500 : Int) < (ds.length : Int)) = false := by simp; omega
  by_cases g2 : (N : Int) = 1 ∨ (N : Int) = 28 ∨ (N : Int) = 5
  · rcases g2 with g2 | g2 | g2
    all_goals
      rw [g2] at hk1
      clear g2
      go_enter Tryd.func3, Tryd.ntmps3
      go_wp2_with (fail)
      refine b_ (awake13_calls _ HS.out.env) HS ?_
      intro w1 HB1 HS1
      go_wp2
      go_ret
      exact ⟨rfl, HS1.out.below⟩
  have b2 : ((N : Int) == 1) = false := by simp; omega
  have b3 : ((N : Int) == 28) = false := by simp; omega
  have b4 : ((N : Int) == 5) = false := by simp; omega
  obtain ⟨hrec, hqu⟩ := classes_law N M t (by omega) (by omega) (by omega) (by omega) (by omega) ds
  have hL := lit_bytes w w.heap.size (headC N M t ds.length) (Nat.le_refl _) (by show 13 ≤ 9223372036854775807; decide)
  have HL := Kp.mk hL
  have HS0 := Kp.mk (HS.out.alloc (.cells ((headC N M t ds.length).map (Value.int .u8)).toArray 5))
  have HC0 := Kp.mk (Kd.C_below HC.out ((Below.refl _ _).alloc (Nat.le_refl _) (.cells ((headC N M t ds.length).map (Value.int .u8)).toArray 5)))
  have e1 : IntKind.u8.wrap ((N : Int) / 256) = (N : Int) / 256 := IntWalk.u8_in _ (by omega)
  have e2 : IntKind.u8.wrap (N : Int) = (N : Int) % 256 := by unfold IntKind.wrap IntKind.bits IntKind.signed; simp
  have e3 : IntKind.u8.wrap ((M : Int) / 256) = (M : Int) / 256 := IntWalk.u8_in _ (by omega)
  have e4 : IntKind.u8.wrap (M : Int) = (M : Int) % 256 := by unfold IntKind.wrap IntKind.bits IntKind.signed; simp
  have e5 : IntKind.u8.wrap (t / 16777216) = t / 16777216 := IntWalk.u8_in _ (by omega)
  have e6 : IntKind.u8.wrap t = t % 256 := by unfold IntKind.wrap IntKind.bits IntKind.signed; simp
  have e7 : IntKind.u8.wrap (t / 65536) = t / 65536 % 256 := by unfold IntKind.wrap IntKind.bits IntKind.signed; simp
  have e8 : IntKind.u8.wrap (t / 256) = t / 256 % 256 := by unfold IntKind.wrap IntKind.bits IntKind.signed; simp
  have e9 : IntKind.u8.wrap ((ds.length : Int) / 256) = (ds.length : Int) / 256 := IntWalk.u8_in _ (by omega)
  have e10 : IntKind.u8.wrap (ds.length : Int) = (ds.length : Int) % 256 := by unfold IntKind.wrap IntKind.bits IntKind.signed; simp
  have HREC := Kp.mk hrec
  have HQU := Kp.mk hqu
  have HHB := Kp.mk (headC_byts N M t ds.length (by omega) (by omega) (by omega) (by omega))
  clear hrec hqu hL g2
  go_enter Tryd.func3, Tryd.ntmps3
  go_wp2_with (at_builtin; (with_reducible refine gate_builtin (b := .append) (xs := #[.tmp 70, .tmp 71]) rfl ?_); go_must (refine app_bytes (w0 := w) (base := w.heap.size) (s := .tmp 70) (x := .tmp 71) (v := .slice (some ⟨w.heap.size, 0, none⟩) 13 13) rfl rfl (headC N M t ds.length) ds A ds.length c rfl rfl HL.out HC0.out HS0.out.below HS0.out.size (by show 13 + ds.length ≤ 140737488355328; omega) ?_))
  intro v5 w5 HR5 HB5 hs5
  obtain ⟨xs, hxs⟩ : ∃ xs, headC N M t ds.length ++ ds = xs := ⟨_, rfl⟩
  have hxl : xs.length = 13 + ds.length := by rw [← hxs, List.length_append]; rfl
  have HXB : Kp (Byts xs) := ⟨by rw [← hxs]; exact fun x hx => (List.mem_append.1 hx).elim (HHB.out x) (HX.out x)⟩
  rw [hxs] at HR5 HREC HQU
  obtain ⟨A5, c5, rfl⟩ := Kd.R_slice HR5.out
  have HS5 : Kp (St w w5) := ⟨⟨HB5.out, HS.out.env.below HB5.out⟩⟩
  have HC5 := Kp.mk (R_C HR5.out).1
  have hc5 := (R_C HR5.out).2
  have hcm5 := R_cap HR5.out
  have bl : ((13 + (ds.length : Int)) == (xs.length : Int)) = true := by simp; omega
  have hxle : xs.length ≤ 140737488355328 := by omega
  have HXL := Kp.mk hxl
  clear hxs HR5 HHB hxl e1 e2 e3 e4 e5 e6 e7 e8 e9 e10 HL HS0 HC0
  go_wp2_with (fail)
  refine (recRead_calls A5 c5 xs 0 _ _ _ _ HC5.out HXB.out hc5 hcm5 HS5.out.env hxle (by decide) HREC.out).mono ?_
  rintro e6 w6 ⟨dv, v6, rfl, hR6, hM6, hB6⟩
  obtain ⟨A6, c6, rfl⟩ := Kd.R_slice hR6
  obtain rfl := er_open_none (erK.K_of_M hM6)
  have HC6 := Kp.mk (R_C hR6).1
  have hc6 := (R_C hR6).2
  have HS6 := Kp.mk (HS5.out.step hB6)
  have HC56 := Kp.mk (Kd.C_below HC5.out hB6)
  have HZ6 := Kp.mk (HS6.out.below.alloc HS6.out.size (.cells #[.string ⟨#[]⟩, .int .i64 0, .int .i64 0, .int .u32 0, .bool false, .int .u8 0, .int .u8 0, .int .u8 0, .int .u8 0, .int .u8 0, .int .u8 0, .int .u8 0, .int .u8 0, .int .u8 0, .int .u8 0, .int .u8 0, .int .u8 0, .int .u8 0, .int .u8 0, .int .u8 0, .int .u8 0, .string ⟨#[]⟩, .slice none 0 0] 30))
  have HBz := Kp.mk ((Below.refl w6.heap.size w6).alloc (Nat.le_refl _) (.cells #[.string ⟨#[]⟩, .int .i64 0, .int .i64 0, .int .u32 0, .bool false, .int .u8 0, .int .u8 0, .int .u8 0, .int .u8 0, .int .u8 0, .int .u8 0, .int .u8 0, .int .u8 0, .int .u8 0, .int .u8 0, .int .u8 0, .int .u8 0, .int .u8 0, .int .u8 0, .int .u8 0, .int .u8 0, .string ⟨#[]⟩, .slice none 0 0] 30))
  clear hR6 hM6 hB6
  go_wp2_with (with_reducible refine st_blk (w0 := w) (base := w.heap.size) rfl 30 (.tmp 10) (.tmp 76) rfl rfl w6.heap.size _ rfl rfl ⟨heap_new _ _⟩ (by kernel_rfl) (by kernel_rfl) (by kernel_rfl) HZ6 HS6.out.size ?_)
  intro w7 Hg7 HO7 HB7 hs7
  have hB67 := stored_new HS6.out.below HB7.out hs7 HO7.out
  have HS7 := Kp.mk (HS6.out.step hB67)
  have HC57 := Kp.mk (Kd.C_below HC56.out hB67)
  have HC7 := Kp.mk (Kd.C_below HC6.out hB67)
  have HCa7 := Kp.mk (Kd.C_below HC.out HS7.out.below)
  have HZ7 := Kp.mk (HS7.out.below.alloc HS7.out.size (.cells #[.string ⟨#[]⟩, .int .i64 0, .int .i64 0, .int .u32 0, .bool false, .int .u8 0, .int .u8 0, .int .u8 0, .int .u8 0, .int .u8 0, .int .u8 0, .int .u8 0, .int .u8 0, .int .u8 0, .int .u8 0, .int .u8 0, .int .u8 0, .int .u8 0, .int .u8 0, .int .u8 0, .int .u8 0, .string ⟨#[]⟩, .slice none 0 0] 30))
  clear hs7 hB67 HO7 HB7 HZ6 HBz HC6 HC56
  go_wp2_with (with_reducible refine st_blk (w0 := w) (base := w.heap.size) rfl 30 (.tmp 13) (.tmp 83) rfl rfl w7.heap.size _ rfl rfl ⟨heap_new _ _⟩ (by kernel_rfl) (by kernel_rfl) (by kernel_rfl) HZ7 HS7.out.size ?_)
  intro w8 Hg8 HO8 HB8 hs8
  have hB78 := stored_new HS7.out.below HB8.out hs8 HO8.out
  have HS8 := Kp.mk (HS7.out.step hB78)
  have HC58 := Kp.mk (Kd.C_below HC57.out hB78)
  have HC8 := Kp.mk (Kd.C_below HC7.out hB78)
  have HCa8 := Kp.mk (Kd.C_below HCa7.out hB78)
  have Hg7a := Kp.mk ((hB78.block _ (heap_lt Hg7.out)).trans Hg7.out)
  clear hs8 hB78 HO8 HB8 HZ7 HC57 HC7 HCa7 Hg7
  go_wp2_with (fail)
  refine (quRead_calls A5 c5 xs 0 _ _ _ _ HC58.out HXB.out hc5 hcm5 HS8.out.env hxle (by decide) HQU.out).mono ?_
  rintro e9 w9 ⟨v9, rfl, hM9, hB9⟩
  obtain rfl := er_open_none (erK.K_of_M hM9)
  have hBq := (Below.refl w9.heap.size w9).alloc (Nat.le_refl _) (.cells #[.string (mkB [120]), .int .i64 N, .int .i64 M] 36)
  have hB9q := below_step hB9 hBq
  have HS9 := Kp.mk (HS8.out.step hB9q)
  have HC9 := Kp.mk (Kd.C_below HC8.out hB9q)
  have HCa9 := Kp.mk (Kd.C_below HCa8.out hB9q)
  have Hg9 := Kp.mk ((hB9q.block _ (heap_lt Hg7a.out)).trans Hg7a.out)
  have Hw9 := Kp.mk ((hB9q.block _ (heap_lt Hg8.out)).trans Hg8.out)
  have Hq9 := Kp.mk (heap_new w9 (.cells #[.string (mkB [120]), .int .i64 N, .int .i64 M] 36))
  clear hM9 hB9 hBq hB9q HC58 HC8 HCa8 Hg7a Hg8
  go_wp2_with (fail)
  refine b_ (awake13_calls _ HS9.out.env) HS9 ?_
  intro wa HBa HSa
  have HCx := Kp.mk (Kd.C_below HC9.out HBa.out)
  have HCy := Kp.mk (Kd.C_below HCa9.out HBa.out)
  have Hga := Kp.mk ((HBa.out.block _ (heap_lt Hg9.out)).trans Hg9.out)
  have Hwa := Kp.mk ((HBa.out.block _ (heap_lt Hw9.out)).trans Hw9.out)
  have Hqa := Kp.mk ((HBa.out.block _ (heap_lt Hq9.out)).trans Hq9.out)
  clear HC9 HCa9 Hg9 Hw9 Hq9
  go_wp2_with (first | (with_reducible refine ld_blkG (by kernel_rfl) 30 (.tmp 10) rfl w6.heap.size rfl Hga Tryd.underlying30 rfl (by kernel_rfl) ?_) | (with_reducible refine ld_blkG (by kernel_rfl) 30 (.tmp 13) rfl w7.heap.size rfl Hwa Tryd.underlying30 rfl (by kernel_rfl) ?_))
  refine b_ (sameRec_calls [120] N M t false (fun _ => 0) (fun _ => 0) [] ds A6 A c6 c _ (eq16_self _) HCx.out hc6 HCy.out hc) HSa ?_
  intro wb HBb HSb
  have hqb := (HBb.out.block _ (heap_lt Hqa.out)).trans Hqa.out
  have q0 := blk_cell hqb 0
  have q1 := blk_cell hqb 1
  have q2 := blk_cell hqb 2
  have bx : (mkB [120]).toList = [120] := by rw [ByteArray.toList_eq]; rfl
  have by_ : (⟨#[120]⟩ : ByteArray).toList = [120] := by rw [ByteArray.toList_eq]
  clear hqb
  go_wp2
  go_ret
  exact ⟨rfl, HSb.out.below⟩
end Go.Proofs.YtclgffblfjhciaaDoor
