/-
  Package name: Right, Write, by their contracts.
-/
import Derived.Test.YtlkneoednkhleaaGreatDoorYNameB
import Derived.Test.YtlkneoednkhleaaGreatDoorYApp
namespace Go.Proofs.YtlkneoednkhleaaGreatDoor
open Go.RowKit Go.Proofs.YtlkneoednkhleaaGreatDoorW.PrintWords
set_option linter.unusedVariables false
set_option linter.unusedSimpArgs false
set_option maxRecDepth 100000
set_option maxHeartbeats 1000000

theorem notLabel_calls (s : ByteArray) (w : World) (hs : s.size ≤ 9223372036854775807) : Calls Tryz.prog 98 #[.string s] w fun e w' => e = .returned (.bool (!labelB s)) ∧ Below w.heap.size w w' := by
  go_enter Tryz.func98, Tryz.ntmps98
  go_wp2_with (fail)
  refine (label_calls s w hs).mono ?_
  rintro e w1 ⟨rfl, hb⟩
  have HB := Kp.mk hb
  clear hb
  go_wp2
  go_ret
  exact ⟨rfl, HB.out⟩

theorem indexS_calls (A : Option Addr) (n c : Nat) (xs : List ByteArray) (w : World) (h : Kd.string.C w A n xs) (hs : ∀ x ∈ xs, x.size ≤ 9223372036854775807) :
    Calls Tryz.prog 123 #[.slice A n c, .func (.func 98) #[] #[]] w fun e w' => (∃ r : Int, e = .returned (.int .i64 r) ∧ decide (0 ≤ r) = xs.any (fun x => !labelB x)) ∧ Below w.heap.size w w' := by
  obtain ⟨hl, hm⟩ := C_len h
  have HC := Kp.mk h
  have HL := Kp.mk hl
  have HS := Kp.mk hs
  clear h hl hs
  go_enter Tryz.func123, Tryz.ntmps123
  go_wp2_with (fail)
  go_loopw [8] (fun i wr => ∃ k : Nat, k ≤ n ∧ i = .int .i64 k ∧ Kp ((xs.take k).any (fun x => !labelB x) = false) ∧ Kp (Below w.heap.size w wr)) (fun i _ => n - (intOf i).toNat)
  case atStart => exact ⟨0, Nat.zero_le _, rfl, ⟨by simp⟩, ⟨Below.refl _ _⟩⟩
  case round =>
    obtain ⟨k, hk, rfl, HA, HB⟩ := hrel
    by_cases hlt : k < n
    · obtain ⟨ad, rfl, hcell⟩ := at_natS (Kd.C_below HC.out HB.out) k hlt
      have HT := Kp.mk (take_snoc xs ByteArray.empty k (by rw [HL.out]; exact hlt))
      obtain ⟨x, hx⟩ : ∃ x, xs.getD k ByteArray.empty = x := ⟨_, rfl⟩
      have HX := Kp.mk (getD_mem xs ByteArray.empty k (by rw [HL.out]; exact hlt))
      rw [hx] at hcell HT HX
      clear hx
      by_cases hb : labelB x = true
      · go_wp2_with (fail)
        refine (notLabel_calls x _ (HS.out x HX.out)).mono ?_
        rintro e w1 ⟨rfl, hb1⟩
        have HB1 := Kp.mk (below_step HB.out hb1)
        have HA1 : Kp ((xs.take (k + 1)).any (fun x => !labelB x) = false) := ⟨by rw [HT.out, List.any_append, HA.out]; simp [hb]⟩
        clear hb1 HB
        rw [hb]
        clear hb
        go_wp2
        exact ⟨⟨k + 1, by omega, by go_num, HA1, HB1⟩, by simp [intOf]; omega⟩
      · have hb' : labelB x = false := by simpa using hb
        go_wp2_with (fail)
        refine (notLabel_calls x _ (HS.out x HX.out)).mono ?_
        rintro e w1 ⟨rfl, hb1⟩
        have HB1 := Kp.mk (below_step HB.out hb1)
        have HA1 : Kp (xs.any (fun x => !labelB x) = true) := ⟨List.any_eq_true.2 ⟨x, HX.out, by simp [hb']⟩⟩
        clear hb1 HB hb
        rw [hb']
        clear hb'
        go_wp2
        go_ret
        exact ⟨⟨k, rfl, by rw [HA1.out]; simp⟩, HB1.out⟩
    · obtain rfl : k = n := by omega
      have ht : xs.take k = xs := List.take_of_length_le (by rw [HL.out]; omega)
      rw [ht] at HA
      clear ht hlt
      go_wp2
      go_ret
      exact ⟨⟨-1, rfl, by rw [HA.out]; rfl⟩, HB.out⟩
theorem containsS_calls (A : Option Addr) (n c : Nat) (xs : List ByteArray) (w : World) (h : Kd.string.C w A n xs) (hs : ∀ x ∈ xs, x.size ≤ 9223372036854775807) :
    Calls Tryz.prog 97 #[.slice A n c, .func (.func 98) #[] #[]] w fun e w' => e = .returned (.bool (xs.any (fun x => !labelB x))) ∧ Below w.heap.size w w' := by
  have HC := Kp.mk h
  have HS := Kp.mk hs
  clear h hs
  go_enter Tryz.func97, Tryz.ntmps97
  go_wp2_with (fail)
  refine (indexS_calls _ _ _ _ _ HC.out HS.out).mono ?_
  rintro e w1 ⟨⟨r, rfl, hr⟩, hb⟩
  have HR := Kp.mk hr
  have HB := Kp.mk hb
  clear hr hb
  go_wp2
  go_ret
  exact ⟨by rw [← HR.out]; rfl, HB.out⟩

/-- May a text be a name? -/
def rightL (s : L) : Bool := decide (sizeOf_ (labelsOf s) ≤ 255) && !((labelsOf s).any (fun x => !labelB (mkB x)))

theorem splitD_sz (l : L) : sizeOf_ (splitD l) = l.length + 2 := by
  induction l with
  | nil => rfl
  | cons c l ih =>
    unfold splitD
    split
    · simp [sizeOf_] at ih ⊢; omega
    · split
      · rename_i h
        exact absurd h (splitD_ne l)
      · rename_i h
        rw [h] at ih
        simp [sizeOf_] at ih ⊢
        omega
theorem labels_sz (l : L) : sizeOf_ (labelsOf l) = if l = [] then 1 else l.length + 2 := by
  unfold labelsOf
  split
  · rfl
  · exact splitD_sz l
theorem mem_sz {l : List L} {x : L} (h : x ∈ l) : x.length < sizeOf_ l := by
  induction l with
  | nil => simp at h
  | cons a l ih =>
    rcases List.mem_cons.1 h with rfl | h
    · simp [sizeOf_]; omega
    · have := ih h
      simp [sizeOf_] at this ⊢
      omega
theorem mem_labels {s : L} {x : ByteArray} (h : x ∈ (labelsOf s).map mkB) : x.size < s.length + 2 := by
  obtain ⟨y, hy, rfl⟩ := List.mem_map.1 h
  have h1 := mem_sz hy
  rw [labels_sz] at h1
  show y.length < _
  split at h1 <;> omega
theorem right_calls (s : ByteArray) (w : World) (hE : Env w) (hs : s.size < 4294967281) : Calls Tryz.prog 60 #[.string s] w fun e w' => e = .returned (.bool (rightL s.data.toList)) ∧ Below w.heap.size w w' := by
  have hz : sizeOf_ (labelsOf s.data.toList) ≤ s.size + 2 := by
    rw [labels_sz]
    have : s.data.toList.length = s.size := data_length s
    split <;> omega
  have HM : Kp (∀ x ∈ (labelsOf s.data.toList).map mkB, x.size ≤ 9223372036854775807) := ⟨fun x hx => by
    have h1 := mem_labels hx
    have : s.data.toList.length = s.size := data_length s
    omega⟩
  have H := Kp.mk (labels_calls s w hE hs)
  unfold rightL
  obtain ⟨l, hl⟩ : ∃ l, labelsOf s.data.toList = l := ⟨_, rfl⟩
  rw [hl] at hz HM H ⊢
  clear hl hE
  have hz2 : sizeOf_ l ≤ 9223372036854775807 := by omega
  have HZ := Kp.mk hz2
  clear hz hz2
  by_cases h5 : sizeOf_ l ≤ 255
  · have b5 : decide (((sizeOf_ l : Nat) : Int) ≤ 255) = true := by simp; omega
    have e5 : decide (sizeOf_ l ≤ 255) = true := by simpa using h5
    rw [e5, Bool.true_and]
    clear e5 h5
    go_enter Tryz.func60, Tryz.ntmps60
    go_wp2_with (fail)
    refine H.out.mono ?_
    rintro e w1 ⟨v, rfl, hm, hb⟩
    have HB := Kp.mk hb
    obtain ⟨A, c, rfl, hc, hC⟩ := slice_open (strsK.K_of_M hm)
    rw [List.length_map] at hC ⊢
    have HC := Kp.mk hC
    clear hb hm hC
    go_wp2_with (fail)
    refine (size_calls _ _ _ _ _ HC.out HZ.out).mono ?_
    rintro e w2 ⟨rfl, rfl⟩
    go_wp2_with (fail)
    refine (containsS_calls _ _ _ _ _ HC.out HM.out).mono ?_
    rintro e w2 ⟨rfl, hb2⟩
    have HB2 := Kp.mk (below_step HB.out hb2)
    clear hb2
    go_wp2
    go_ret
    exact ⟨rfl, HB2.out⟩
  · have b5 : decide (((sizeOf_ l : Nat) : Int) ≤ 255) = false := by simp; omega
    have e5 : decide (sizeOf_ l ≤ 255) = false := by simpa using h5
    rw [e5, Bool.false_and]
    clear e5 h5
    go_enter Tryz.func60, Tryz.ntmps60
    go_wp2_with (fail)
    refine H.out.mono ?_
    rintro e w1 ⟨v, rfl, hm, hb⟩
    have HB := Kp.mk hb
    obtain ⟨A, c, rfl, hc, hC⟩ := slice_open (strsK.K_of_M hm)
    rw [List.length_map] at hC ⊢
    have HC := Kp.mk hC
    clear hb hm hC
    go_wp2_with (fail)
    refine (size_calls _ _ _ _ _ HC.out HZ.out).mono ?_
    rintro e w2 ⟨rfl, rfl⟩
    go_wp2
    go_ret
    exact ⟨rfl, HB.out⟩

/-- A name as it is written. -/
def wireOf (l : List L) : List Int := (l.map fun s => (s.length : Int) :: s.map fun b => (b.toNat : Int)).flatten
theorem wire_snoc (l : List L) (x : L) : wireOf (l ++ [x]) = wireOf l ++ (((mkB x).size : Int) :: bytesOf (mkB x)) := by
  simp [wireOf, bytesOf, mkB_toList, mkB_size]
theorem wire_len (l : List L) : (wireOf l).length + 1 = sizeOf_ l := by
  induction l with
  | nil => rfl
  | cons x l ih =>
    simp [wireOf, sizeOf_] at ih ⊢
    omega
theorem wire_take (l : List L) (k : Nat) : (wireOf (l.take k)).length + 1 ≤ sizeOf_ l := by
  rw [wire_len]
  exact sz_le l k
theorem write_bad (s : ByteArray) (w : World) (hE : Env w) (hs : s.size < 4294967281) (hr : rightL s.data.toList = false) : Calls Tryz.prog 55 #[.string s] w (Gives2 bytesK erK [] (.code 13) w) := by
  have H := Kp.mk (right_calls s w hE hs)
  rw [hr] at H
  clear hr hE
  go_enter Tryz.func55, Tryz.ntmps55
  go_wp2_with (fail)
  refine H.out.mono ?_
  rintro e w1 ⟨rfl, hb⟩
  have HB := Kp.mk hb
  clear hb
  go_wp2
  go_ret2
  exact ⟨_, _, rfl, ⟨_, rfl, Kd.R_nil _ _ _ _ _⟩, er_code _ _ _ _, HB.out⟩
theorem write_good (s : ByteArray) (w : World) (hE : Env w) (hs : s.size < 4294967281) (hr : rightL s.data.toList = true) : Calls Tryz.prog 55 #[.string s] w (Gives2 bytesK erK (wireOf (labelsOf s.data.toList) ++ [0]) .none w) := by
  have H := Kp.mk (right_calls s w hE hs)
  rw [hr] at H
  have hz : sizeOf_ (labelsOf s.data.toList) ≤ 255 := by
    unfold rightL at hr
    simp at hr
    exact hr.1
  have HE := Kp.mk hE
  have HLC := Kp.mk (fun w h => labels_calls s w h hs)
  obtain ⟨l, hl⟩ : ∃ l, labelsOf s.data.toList = l := ⟨_, rfl⟩
  rw [hl] at hz HLC ⊢
  have HZ := Kp.mk hz
  have HT := Kp.mk (fun k => wire_take l k)
  clear hr hE hl hz
  go_enter Tryz.func55, Tryz.ntmps55
  go_wp2_with (fail)
  refine H.out.mono ?_
  rintro e w1 ⟨rfl, hb⟩
  have HB := Kp.mk hb
  clear hb
  go_wp2_with (fail)
  refine (HLC.out _ (HE.out.below HB.out)).mono ?_
  rintro e w2 ⟨v, rfl, hm, hb⟩
  have HB2 := Kp.mk (below_step HB.out hb)
  obtain ⟨A, c, rfl, hc, hC⟩ := slice_open (strsK.K_of_M hm)
  rw [List.length_map] at hC ⊢
  have HC := Kp.mk hC
  clear hb hm hC HB
  go_wp2_with (fail)
  have hln : l.length ≤ 9223372036854775807 := (C_len HC.out).2
  go_loopw [4, 14] (fun v i wr => ∃ k : Nat, k ≤ l.length ∧ i = .int .i64 k ∧ Kp (Below w2.heap.size w2 wr) ∧ Kp ((Kd.int .u8).R 5 wr w2.heap.size (fun _ => True) v (wireOf (l.take k)))) (fun _ i _ => l.length - (intOf i).toNat)
  case atStart => exact ⟨0, Nat.zero_le _, rfl, ⟨Below.refl _ _⟩, ⟨Kd.R_nil _ _ _ _ _⟩⟩
  case round =>
    obtain ⟨k, hk, rfl, HW, HR⟩ := hrel
    by_cases hlt : k < l.length
    · obtain ⟨ad, rfl, hcell⟩ := at_natS (Kd.C_below HC.out HW.out) k hlt
      have hgx : (l.map mkB).getD k ByteArray.empty = mkB (l.getD k []) := by simp [List.getD_eq_getElem?_getD, hlt]
      rw [hgx] at hcell
      have HTS := Kp.mk (take_snoc l [] k hlt)
      have HTW := Kp.mk (HT.out k)
      have HTW2 := Kp.mk (HT.out (k + 1))
      obtain ⟨x, hx⟩ : ∃ x, l.getD k [] = x := ⟨_, rfl⟩
      rw [hx] at hcell HTS
      clear hgx hx
      have hxs : (mkB x).size ≤ 253 := by
        have h1 := HTW2.out
        rw [HTS.out, wire_snoc] at h1
        simp only [List.length_append, List.length_cons, bytesOf_length] at h1
        have := HZ.out
        omega
      have hsz := HW.out.size
      go_wp2_with (at_builtin; with_reducible refine gate_builtin (b := .append) (xs := #[.tmp 18, .tmp 22]) rfl ?_; refine app_byte (w0 := w2) rfl rfl _ _ rfl rfl HR.out HW.out hsz (by have := HTW.out; have := HZ.out; omega) ?_)
      intro v1 wa HR1 HW1 hs1
      go_wp2_with (at_builtin; with_reducible refine gate_builtin (b := .append) (xs := #[.tmp 23, .tmp 24]) rfl ?_; refine app_str (w0 := w2) rfl rfl _ _ rfl rfl HR1.out HW1.out hs1.out (by have := HTW.out; have := HZ.out; simp only [List.length_append, List.length_singleton]; omega) ?_)
      intro v2 wb HR2 HW2 hs2
      go_wp2
      refine ⟨⟨k + 1, by omega, by go_num, HW2, ⟨?_⟩⟩, by simp [intOf]; omega⟩
      rw [HTS.out, wire_snoc]
      exact HR2.out
    · obtain rfl : k = l.length := by omega
      have ht : l.take l.length = l := List.take_length
      rw [ht] at HR
      have HTW := Kp.mk (HT.out l.length)
      rw [ht] at HTW
      have hsz := HW.out.size
      clear ht hlt
      go_wp2_with (at_builtin; refine app_byte (w0 := w2) rfl rfl _ _ rfl rfl HR.out HW.out hsz (by have := HTW.out; have := HZ.out; omega) ?_)
      intro v1 wa HR1 HW1 hs1
      go_wp2
      go_ret2
      exact ⟨_, _, rfl, ⟨_, rfl, Kd.R_lower HR1.out HB2.out.size⟩, er_none _ _ _, below_step HB2.out HW1.out⟩
end Go.Proofs.YtlkneoednkhleaaGreatDoor
