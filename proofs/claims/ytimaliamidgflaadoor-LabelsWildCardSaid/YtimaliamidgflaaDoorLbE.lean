/-
  Package labels: New, Len, the nil trie; ints held against each other; the statements' awake.
-/
import Derived.Test.YtimaliamidgflaaDoorLbD
import Derived.Deep.QuietTactic
import Derived.BigQuiet
namespace Go.Proofs.YtimaliamidgflaaDoor
open Go.RowKit Go.Proofs.YtimaliamidgflaaDoorW.PrintWords Go.Maps
set_option linter.unusedVariables false
set_option linter.unusedSimpArgs false
set_option maxRecDepth 100000
set_option maxHeartbeats 1000000

theorem inv_new (w : World) (B N : Nat) (hB : B ≤ N) (hb : w.heap[N]? = some (.cells #[.slice none 0 0, .slice none 0 0, .map none] 73 (0, 0))) :
    Inv w B 0 N (fun p => if p = [] then some ⟨N, fun _ => .slice none 0 0, none, .map []⟩ else none) [] := by
  have key : ∀ p nd, (if p = [] then some (⟨N, fun _ => .slice none 0 0, none, .map []⟩ : Nd) else none) = some nd → p = ([] : List L) ∧ nd = ⟨N, fun _ => .slice none 0 0, none, .map []⟩ := by
    intro p nd h
    split at h
    · rename_i e
      exact ⟨e, (Option.some.inj h).symm⟩
    · cases h
  constructor
  · intro p nd h
    obtain ⟨rfl, rfl⟩ := key p nd h
    exact ⟨hb, hB, fun b => Kd.R_nil _ _ _ _ _, fun m hm => by cases hm⟩
  · intro p q a b hp hq _
    rw [(key p a hp).1, (key q b hq).1]
  · intro p q a b m hp hq _ _
    rw [(key p a hp).1, (key q b hq).1]
  · intro p q a b x y k hp hq ha _
    obtain ⟨-, rfl⟩ := key p a hp
    simp [Value.ownBlock] at ha
  · intro p nd s h
    obtain ⟨rfl, rfl⟩ := key p nd h
    simp [childOf, ptrD]
  · exact ⟨_, if_pos rfl, rfl⟩
  · intro x hx
    cases hx
  · intro p s h
    simp at h
theorem new_calls (w : World) : Calls Tryd.prog 14 #[] w fun e w' => ∃ tb, e = .returned (.pointer (some ⟨tb, 0, none⟩)) ∧ w.heap.size ≤ tb ∧ TrieAt w' w.heap.size 0 tb [] ∧ Below w.heap.size w w' := by
  go_enter Tryd.func14, Tryd.ntmps14
  go_wp2
  go_ret
  have h1 := heap_new (w.alloc (.cells #[.slice none 0 0, .slice none 0 0, .map none] 73)) (.cells #[.pointer (some ⟨w.heap.size, 0, none⟩), .int .i64 0] 75)
  have h2 := heap_new w (.cells #[.slice none 0 0, .slice none 0 0, .map none] 73)
  have h3 : (w.alloc (.cells #[.slice none 0 0, .slice none 0 0, .map none] 73)).heap.size = w.heap.size + 1 := by simp
  rw [h3] at h1
  refine ⟨w.heap.size + 1, rfl, by omega, ⟨w.heap.size, _, h1, by omega, inv_new _ _ _ (Nat.le_refl _) ((Below.heap_alloc _ _ _ (by simp)).trans h2)⟩, ((Below.refl _ _).alloc (Nat.le_refl _) _).alloc (by simp) _⟩
theorem len_calls (tb B K : Nat) (ps : List Pat) (w : World) (hT : TrieAt w B K tb ps) : Calls Tryd.prog 21 #[.pointer (some ⟨tb, 0, none⟩)] w fun e w' => e = .returned (.int .i64 (ps.length : Int)) ∧ w = w' := by
  obtain ⟨top, F, htb, -, -⟩ := hT
  have c1 := blk_cell htb 1
  clear htb
  go_enter Tryd.func21, Tryd.ntmps21
  go_wp2
  go_ret
  exact ⟨rfl, rfl⟩
theorem len_nil (w : World) : Calls Tryd.prog 21 #[.pointer none] w fun e w' => e = .returned (.int .i64 0) ∧ w = w' := by
  go_enter Tryd.func21, Tryd.ntmps21
  go_wp2
  go_ret
  exact ⟨rfl, rfl⟩
theorem add_nil (s : ByteArray) (b : Bool) (i : Int) (w : World) : Calls Tryd.prog 17 #[.pointer none, .string s, .bool b, .int .i64 i] w fun e w' => e = .returned (.tuple #[]) ∧ w = w' := by
  go_enter Tryd.func17, Tryd.ntmps17
  go_wp2
  go_returns
  exact ⟨rfl, rfl⟩
theorem match_nil (s : ByteArray) (w : World) : Calls Tryd.prog 19 #[.pointer none, .string s] w fun e w' => e = .returned (.slice none 0 0) ∧ w = w' := by
  go_enter Tryd.func19, Tryd.ntmps19
  go_wp2
  go_ret
  exact ⟨rfl, rfl⟩
/-! ints held against each other -/
theorem samei1_calls (x y : Int) (w : World) : Calls Tryd.prog 37 #[.int .i64 x, .int .i64 y] w fun e w' => e = .returned (.bool (x == y)) ∧ w = w' := by
  go_enter Tryd.func37, Tryd.ntmps37
  go_wp2
  go_ret
  exact ⟨rfl, rfl⟩
theorem samei_calls (A B : Option Addr) (n m c d : Nat) (xs : List Int) (w : World) (h : (Kd.int .i64).C w A n xs) (h2 : (Kd.int .i64).C w B m xs) :
    Calls Tryd.prog 36 #[.slice A n c, .slice B m d, .func (.func 37) #[] #[]] w fun e w' => e = .returned (.bool true) ∧ Below w.heap.size w w' := by
  obtain rfl := (C_len h).1
  obtain rfl := (C_len h2).1
  have hm := (C_len h).2
  have HC := Kp.mk h
  have HD := Kp.mk h2
  clear h h2
  go_enter Tryd.func36, Tryd.ntmps36
  go_wp2_with (fail)
  go_loopw [7] (fun i wr => ∃ k : Nat, k ≤ xs.length ∧ i = .int .i64 k ∧ Kp (Below w.heap.size w wr)) (fun i _ => xs.length - (intOf i).toNat)
  case atStart => exact ⟨0, Nat.zero_le _, rfl, ⟨Below.refl _ _⟩⟩
  case round =>
    obtain ⟨k, hk, rfl, HW⟩ := hrel
    by_cases hlt : k < xs.length
    · obtain ⟨ad, rfl, hcell⟩ := at_nat (Kd.C_below HC.out HW.out) k hlt
      obtain ⟨bd, rfl, hcell2⟩ := at_nat (Kd.C_below HD.out HW.out) k hlt
      obtain ⟨x, hx⟩ : ∃ x, xs.getD k 0 = x := ⟨_, rfl⟩
      rw [hx] at hcell hcell2
      have bx : (x == x) = true := by simp
      have i0 : (0 : Int) ≤ (k : Int) := by omega
      have i1 : (k : Int) < (xs.length : Int) := by omega
      clear hx
      go_wp2_with (fail)
      go_quiet ((go_at_call 37; exact quiet_l (samei1_calls _ _ _)))
      go_wp2
      exact ⟨⟨k + 1, by omega, by go_num, ⟨pw_below_drewN HW.out _⟩⟩, by simp [intOf]; omega⟩
    · obtain rfl : k = xs.length := by omega
      go_wp2
      go_ret
      exact ⟨rfl, HW.out⟩
theorem plaini_calls (A B : Option Addr) (n m c d : Nat) (xs : List Int) (w : World) (h : (Kd.int .i64).C w A n xs) (h2 : (Kd.int .i64).C w B m xs) :
    Calls Tryd.prog 18 #[.slice A n c, .slice B m d] w fun e w' => e = .returned (.bool true) ∧ Below w.heap.size w w' := by
  have HC := Kp.mk h
  have HD := Kp.mk h2
  clear h h2
  go_enter Tryd.func18, Tryd.ntmps18
  go_wp2_with (fail)
  refine (samei_calls _ _ _ _ _ _ xs _ HC.out HD.out).mono ?_
  rintro e w1 ⟨rfl, hb⟩
  have HB := Kp.mk hb
  clear hb
  go_wp2
  go_ret
  exact ⟨rfl, HB.out⟩
/-- A literal row of ints. -/
theorem lit_ints (W : World) (base : Nat) (xs : List Int) (hb : base ≤ W.heap.size) (hm : xs.length ≤ 9223372036854775807) :
    (Kd.int .i64).R 3 (W.alloc (.cells (xs.map (Value.int .i64)).toArray 3)) base (fun _ => True) (.slice (some ⟨W.heap.size, 0, none⟩) xs.length xs.length) xs :=
  Kd.R_of_own (by have h := own_lit W base 3 .i64 xs hb hm; simpa [nums, encs] using h) (fun _ _ => trivial)
theorem aw_match1 : matchF [⟨pathOf [97, 46, 98], true, 5⟩, ⟨pathOf [97, 46, 98], false, 6⟩] (pathOf [99, 46, 97, 46, 98]) = [5] := by decide +kernel
theorem aw_match2 : matchF [⟨pathOf [97, 46, 98], true, 5⟩, ⟨pathOf [97, 46, 98], false, 6⟩] (pathOf [97, 46, 98]) = [6] := by decide +kernel
theorem aw_path : (pathOf [97, 46, 98]).length = 2 := by decide +kernel
/-- A trie of the call's own, and what has become of the world. -/
structure Tr (w0 w : World) (B K tb : Nat) (ps : List Pat) : Prop where
  trie : TrieAt w B K tb ps
  st : StM w0 w
  e0 : EnvM w0
  lo : w0.heap.size ≤ B
  hi : B ≤ w.heap.size
theorem Tr.step {w0 w w' : World} {B K tb : Nat} {ps : List Pat} (h : Tr w0 w B K tb ps) (hb : Below w.heap.size w w') : Tr w0 w' B K tb ps := ⟨h.trie.below hb, h.st.step hb, h.e0, h.lo, Nat.le_trans h.hi hb.size⟩
section
variable {w0 W : World} {Q : Ending → World → Prop}
theorem new_ (HS : Kp (StM w0 W)) (HE : Kp (EnvM w0)) (k : ∀ tb W', Kp (Below W.heap.size W W') → Kp (Tr w0 W' W.heap.size 0 tb []) → Q (.returned (.pointer (some ⟨tb, 0, none⟩))) W') : Calls Tryd.prog 14 #[] W Q :=
  (new_calls W).mono fun e w' ⟨tb, he, h1, h2, h3⟩ => by subst he; exact k tb w' ⟨h3⟩ ⟨⟨h2, HS.out.step h3, HE.out, HS.out.size, h3.size⟩⟩
theorem add_ {B K tb : Nat} {ps : List Pat} (HT : Kp (Tr w0 W B K tb ps)) (s : ByteArray) (b : Bool) (i : Int) (hs : s.size ≤ 10000) (hK : K ≤ 1000000000) (hn : ps.length ≤ 1000000)
    (k : ∀ W', Kp (Tr w0 W' B (K + 10001) tb (ps ++ [⟨pathOf s.data.toList, b, i⟩])) → Kp (Below B W W') → Q (.returned (.tuple #[])) W') : Calls Tryd.prog 17 #[.pointer (some ⟨tb, 0, none⟩), .string s, .bool b, .int .i64 i] W Q :=
  (add_calls tb B K ps s b i W HT.out.trie HT.out.st.env HT.out.hi hs hK hn).mono fun e w' ⟨he, h1, h2⟩ => by
    subst he
    have hpl : (pathOf s.data.toList).length ≤ 10001 := by
      have h1 := labels_few s.data.toList
      have h2 : s.data.toList.length = s.size := data_length s
      rw [pathOf, List.length_reverse]
      omega
    obtain ⟨top, F, t1, t2, t3⟩ := h1
    have hb : Below w0.heap.size w0 w' := HT.out.st.below.trans (h2.mono HT.out.lo)
    refine k w' ⟨⟨⟨top, F, t1, t2, t3.mono (by omega)⟩, ⟨hb, HT.out.e0.below hb⟩, HT.out.e0, HT.out.lo, Nat.le_trans HT.out.hi h2.size⟩⟩ ⟨h2⟩
theorem match_ {B K tb : Nat} {ps : List Pat} (HT : Kp (Tr w0 W B K tb ps)) (s : ByteArray) (hs : s.size ≤ 10000) (hn : ps.length ≤ 1000000)
    (k : ∀ A c W', (matchF ps (pathOf s.data.toList)).length ≤ c → Kp ((Kd.int .i64).C W' A (matchF ps (pathOf s.data.toList)).length (matchF ps (pathOf s.data.toList))) → Kp (Below W.heap.size W W') → Kp (Tr w0 W' B K tb ps) → Q (.returned (.slice A (matchF ps (pathOf s.data.toList)).length c)) W') : Calls Tryd.prog 19 #[.pointer (some ⟨tb, 0, none⟩), .string s] W Q :=
  (match_calls tb B K ps s W HT.out.trie HT.out.st.env hs hn).mono fun e w' ⟨v, he, hm, hb⟩ => by
    subst he
    obtain ⟨A, c, rfl, h1, h2⟩ := slice_open (intsK.K_of_M hm)
    exact k A c w' h1 ⟨h2⟩ ⟨hb⟩ ⟨HT.out.step hb⟩
end
theorem awake20_calls (w : World) (hE : EnvM w) : Calls Tryd.prog 15 #[] w fun e w' => e = .returned (.bool true) ∧ Below w.heap.size w w' := by
  have HE := Kp.mk hE
  have HS := Kp.mk (StM.start hE)
  clear hE
  go_enter Tryd.func15, Tryd.ntmps15
  go_wp2_with (fail)
  refine new_ HS HE ?_
  intro tb w1 HB1 HT1
  go_wp2_with (fail)
  refine add_ HT1 (mkB [97, 46, 98]) true 5 (by decide) (by decide) (by decide) ?_
  intro w2 HT2 HB2
  go_wp2_with (fail)
  refine add_ HT2 (mkB [97, 46, 98]) false 6 (by decide) (by decide) (by decide) ?_
  intro w3 HT3 HB3
  rw [mkB_toList, List.nil_append, List.cons_append, List.nil_append] at HT3
  go_wp2_with (fail)
  refine match_ HT3 (mkB [99, 46, 97, 46, 98]) (by decide) (by decide) ?_
  intro A4 c4 w4 hc4 HC4 HB4 HT4
  rw [mkB_toList, aw_match1] at *
  have hl4 := lit_ints w4 w4.heap.size [5] (Nat.le_refl _) (by decide)
  have HL4 := Kp.mk (R_C hl4).1
  have HBL := Kp.mk ((Below.refl w4.heap.size w4).alloc (Nat.le_refl _) (.cells (([5] : List Int).map (Value.int .i64)).toArray 3))
  have HC4a := Kp.mk (Kd.C_below HC4.out HBL.out)
  have HT4a := Kp.mk (HT4.out.step HBL.out)
  clear hl4
  go_wp2_with (fail)
  refine bM_ (plaini_calls _ _ _ _ _ _ [5] _ HC4a.out HL4.out) (Kp.mk HT4a.out.st) ?_
  intro w5 HB5 HS5
  have HT5 := Kp.mk (HT4a.out.step HB5.out)
  go_wp2_with (fail)
  refine match_ HT5 (mkB [97, 46, 98]) (by decide) (by decide) ?_
  intro A6 c6 w6 hc6 HC6 HB6 HT6
  rw [mkB_toList, aw_match2] at *
  have hl6 := lit_ints w6 w6.heap.size [6] (Nat.le_refl _) (by decide)
  have HL6 := Kp.mk (R_C hl6).1
  have HBM := Kp.mk ((Below.refl w6.heap.size w6).alloc (Nat.le_refl _) (.cells (([6] : List Int).map (Value.int .i64)).toArray 3))
  have HC6a := Kp.mk (Kd.C_below HC6.out HBM.out)
  have HT6a := Kp.mk (HT6.out.step HBM.out)
  clear hl6
  go_wp2_with (fail)
  refine bM_ (plaini_calls _ _ _ _ _ _ [6] _ HC6a.out HL6.out) (Kp.mk HT6a.out.st) ?_
  intro w7 HB7 HS7
  have HT7 := Kp.mk (HT6a.out.step HB7.out)
  go_wp2_with (fail)
  refine q_ (len_calls tb _ _ _ _ HT7.out.trie) ?_
  go_wp2
  go_ret
  exact ⟨rfl, HS7.out.below⟩
end Go.Proofs.YtimaliamidgflaaDoor
