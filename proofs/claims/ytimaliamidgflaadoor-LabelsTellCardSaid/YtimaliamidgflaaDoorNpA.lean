/-
  The law NamePointers: pointers that lead back are followed; one that does not lead back is told: the plain law.
-/
import Derived.Test.YtimaliamidgflaaDoorNameF
import Derived.Test.YtimaliamidgflaaDoorAwake12
namespace Go.Proofs.YtimaliamidgflaaDoor
open Go.RowKit Go.Proofs.YtimaliamidgflaaDoorW.PrintWords
set_option linter.unusedVariables false
set_option linter.unusedSimpArgs false
set_option maxRecDepth 100000
set_option maxHeartbeats 1000000

theorem umod (a : Int) (k : Int) (hk : 0 < k) (hk2 : k ≤ 1000000) : ∃ N : Nat, (N : Int) < k ∧ wrap64 ((IntKind.u64.wrap a).tmod k) = (N : Int) := by
  have h0 : 0 ≤ IntKind.u64.wrap a := by rw [IntKind.wrap_u64]; omega
  have h1 : (IntKind.u64.wrap a).tmod k = IntKind.u64.wrap a % k := by
    rw [Int.tmod_eq_emod_of_nonneg h0]
  refine ⟨(IntKind.u64.wrap a % k).toNat, ?_, ?_⟩
  · have := Int.emod_lt_of_pos (IntKind.u64.wrap a) hk
    have := Int.emod_nonneg (IntKind.u64.wrap a) (Int.ne_of_gt hk)
    omega
  · rw [h1]
    have := Int.emod_lt_of_pos (IntKind.u64.wrap a) hk
    have := Int.emod_nonneg (IntKind.u64.wrap a) (Int.ne_of_gt hk)
    unfold wrap64
    omega
def ptrAt (i : Nat) : Int := if i = 0 then 0 else 3 + 4 * ((i : Int) - 1)
def bP (k : Nat) : List Int := [1, 97, 0] ++ ((List.range k).map fun i => [1, 98, 192, ptrAt i]).flatten
theorem bP_succ (k : Nat) : bP (k + 1) = bP k ++ [1, 98, 192, ptrAt k] := by simp [bP, List.range_succ]
theorem bP_len (k : Nat) : (bP k).length = 3 + 4 * k := by
  induction k with
  | zero => rfl
  | succ k ih => rw [bP_succ, List.length_append, ih]; simp; omega
def wantP : Nat → L
  | 0 => [97]
  | k + 1 => 98 :: 46 :: wantP k
section
variable {ops : Array Oper} {rest : List Oper} {o : Oper} {a : Act} {Q : Exit → Act → World → Prop} {w0 W : World} {base : Nat} {v : Value} {s x : Operand}
theorem app_four (hgd : o.guard = none) (ho : o.op = .call { callee := .builtin .append, args := #[s, x], argTypes := #[49, 49] })
    (xs : List Int) (p q r t : Int) (hs : a.eval s = v) (hx : a.eval x = .slice (some ⟨W.heap.size, 0, none⟩) 4 4) (HO : (Kd.int .u8).R 5 W base (fun _ => True) v xs) (HB : Below base w0 W) (hbase : base ≤ W.heap.size) (hl : xs.length + 4 ≤ 140737488355328)
    (h : ∀ v1 w1, Kp ((Kd.int .u8).R 5 w1 base (fun _ => True) v1 (xs ++ [p, q, r, t])) → Kp (Below base w0 w1) → Kp (base ≤ w1.heap.size) → wpList Tryd.prog ops Q rest (a.put o.dst v1) w1) :
    wpList Tryd.prog ops Q (o :: rest) a (W.alloc (.cells #[.int .u8 p, .int .u8 q, .int .u8 r, .int .u8 t] 5)) :=
  app_bytes (w0 := w0) hgd ho xs [p, q, r, t] (some ⟨W.heap.size, 0, none⟩) 4 4 hs hx (Kd.R_below HO ((Below.refl W.heap.size W).alloc (Nat.le_refl _) _)) (R_C (lit_bytes W W.heap.size [p, q, r, t] (Nat.le_refl _) (by simp))).1 (HB.alloc hbase _) (by simp; omega) hl h
end
theorem ptr_pos (k : Nat) (h0 : 0 < k) (hk : k < 40) : bP k ++ [1, 98, 192 + (3 + 4 * ((k : Int) - 1)) / 256, 3 + 4 * ((k : Int) - 1)] = bP (k + 1) := by
  rw [bP_succ, ptrAt, if_neg (by omega)]
  have : (3 + 4 * ((k : Int) - 1)) / 256 = 0 := by omega
  rw [this]; rfl
theorem want_succ (k : Nat) : (⟨#[98, 46]⟩ : ByteArray) ++ mkB (wantP k) = mkB (wantP (k + 1)) := by
  apply ByteArray.ext
  simp [mkB, wantP]
theorem want_sz (k : Nat) : (mkB (wantP k)).size = 2 * k + 1 := by
  have : ∀ k, (wantP k).length = 2 * k + 1 := by
    intro k
    induction k with
    | zero => rfl
    | succ k ih => simp only [wantP, List.length_cons, ih]; omega
  simpa [mkB, ByteArray.size] using this k
theorem readP : ∀ N : Fin 40, readF ((3 + 4 * ((N : Nat) : Int)).toNat * 300 + 301) (bP (N + 1)) (3 + 4 * ((N : Nat) : Int)) (3 + 4 * ((N : Nat) : Int)) (-1) [] = (wantP (N + 1), 3 + 4 * (((N : Nat) : Int) + 1), .none) := by decide +kernel
theorem be_two (x y : Int) : be [x, y] = x * 256 + y := by simp [be]
theorem readY (N : Nat) (t : Int) (h0 : 3 + 4 * (N : Int) ≤ t) (h1 : t ≤ 3000) :
    readF ((3 + 4 * (N : Int)).toNat * 300 + 301) (bP N ++ [1, 98] ++ [192 + t / 256, t % 256]) (3 + 4 * (N : Int)) (3 + 4 * (N : Int)) (-1) [] = ([], 0, .fault (3 + 4 * (N : Int) + 2) 14) := by
  have hl := bP_len N
  have hx : ∀ i : Nat, (bP N ++ [1, 98] ++ [192 + t / 256, t % 256]).drop (3 + 4 * N + i) = ([1, 98, 192 + t / 256, t % 256] : List Int).drop i := by
    intro i
    rw [List.append_assoc, List.drop_append, hl, List.drop_eq_nil_of_le (by omega)]
    simp
  have hg : ∀ i : Nat, (bP N ++ [1, 98] ++ [192 + t / 256, t % 256]).getD (3 + 4 * N + i) 0 = ([1, 98, 192 + t / 256, t % 256] : List Int).getD i 0 := by
    intro i
    have := congrArg (fun l => l.getD 0 0) (hx i)
    simpa [List.getD_eq_getElem?_getD] using this
  generalize hxs : bP N ++ [1, 98] ++ [192 + t / 256, t % 256] = xs at *
  have hlen : xs.length = 3 + 4 * N + 4 := by rw [← hxs]; simp; omega
  have ha : (3 + 4 * (N : Int)).toNat = 3 + 4 * N := by omega
  have ha2 : (3 + 4 * (N : Int) + 1 + 1).toNat = 3 + 4 * N + 2 := by omega
  have g0 : xs.getD (3 + 4 * (N : Int)).toNat 0 = 1 := by rw [ha]; exact hg 0
  have g2 : xs.getD (3 + 4 * (N : Int) + 1 + 1).toNat 0 = 192 + t / 256 := by rw [ha2]; exact hg 2
  have hlab : lab xs (3 + 4 * (N : Int)) 1 = [98] := by
    unfold lab
    have : (3 + 4 * (N : Int) + 1).toNat = 3 + 4 * N + 1 := by omega
    rw [this, hx 1]; rfl
  have hE : readE xs (3 + 4 * (N : Int)) 1 [] = .none := by
    unfold readE
    rw [if_neg (by omega), hlab, if_neg (by decide +kernel), if_neg (by decide +kernel)]
  have hto : leapTo xs (3 + 4 * (N : Int) + 1 + 1) = t := by
    unfold leapTo
    rw [ha2, hx 2]
    show be [192 + t / 256, t % 256] % 16384 = t
    rw [be_two]; omega
  have hleap : leapE xs (3 + 4 * (N : Int) + 1 + 1) (3 + 4 * (N : Int)) = .fault (3 + 4 * (N : Int) + 2) 14 := by
    unfold leapE
    rw [if_neg (by omega), hto, if_pos h0]
    congr 1
  have hK : (3 + 4 * (N : Int)).toNat * 300 + 301 = ((3 + 4 * (N : Int)).toNat * 300 + 299) + 1 + 1 := by omega
  rw [hK, readF, if_neg (by omega), g0, if_neg (by decide), if_pos (by decide), if_pos hE, readF, if_neg (by omega), g2, if_neg (by omega), if_neg (by omega), if_pos (by omega), if_neg (by rw [hleap]; simp), hleap]
theorem bP_take (N : Nat) : (bP (N + 1)).take (3 + 4 * N + 2) = bP N ++ [1, 98] := by
  rw [bP_succ, List.take_append, bP_len, List.take_of_length_le (by rw [bP_len]; omega)]
  have : 3 + 4 * N + 2 - (3 + 4 * N) = 2 := by omega
  rw [this]; rfl
theorem bP_byts : ∀ (N : Nat), N ≤ 40 → Byts (bP N) := by
  intro N
  induction N with
  | zero => intro _; unfold Byts; decide
  | succ k ih =>
    intro h x hx
    rw [bP_succ, List.mem_append] at hx
    rcases hx with hx | hx
    · exact ih (by omega) x hx
    · have : ptrAt k < 256 ∧ 0 ≤ ptrAt k := by unfold ptrAt; split <;> omega
      simp only [List.mem_cons, List.not_mem_nil, or_false] at hx
      rcases hx with rfl | rfl | rfl | rfl <;> omega
theorem readY2 (N M : Nat) (hN : N < 40) (hM : M < 1000) (ys : List Int) (h : ys = bP N ++ [1, 98, 192 + (3 + 4 * (N : Int) + M) / 256, (3 + 4 * (N : Int) + M) % 256]) :
    readF ((3 + 4 * (N : Int)).toNat * 300 + 301) ys (3 + 4 * (N : Int)) (3 + 4 * (N : Int)) (-1) [] = ([], 0, .fault (3 + 4 * (N : Int) + 2) 14) ∧ ys.length = 3 + 4 * N + 4 ∧ Byts ys := by
  have h1 := readY N (3 + 4 * (N : Int) + M) (by omega) (by omega)
  rw [List.append_assoc] at h1
  subst h
  refine ⟨h1, by rw [List.length_append, bP_len]; rfl, ?_⟩
  intro x hx
  rw [List.mem_append] at hx
  rcases hx with hx | hx
  · exact bP_byts N (by omega) x hx
  · simp only [List.mem_cons, List.not_mem_nil, or_false] at hx
    rcases hx with rfl | rfl | rfl | rfl <;> omega
theorem R_cap {α : Type} {d : Kd α} {e base n c : Nat} {ok : Nat → Prop} {w : World} {A : Option Addr} {xs : List α} (h : d.R e w base ok (.slice A n c) xs) : c ≤ 9223372036854775807 := by
  obtain ⟨inner, ho⟩ := Kd.R_own h
  rcases ho.2 with ⟨h1, -⟩ | ⟨g, cap, cur, hv, -, -, -, hm, -⟩
  · injection h1 with _ _ h3; omega
  · injection hv with _ _ h3; subst h3; exact hm
theorem app_two {ops : Array Oper} {rest : List Oper} {o : Oper} {a : Act} {Q : Exit → Act → World → Prop} {w0 W : World} {base : Nat} {v : Value} {s x : Operand} (hgd : o.guard = none) (ho : o.op = .call { callee := .builtin .append, args := #[s, x], argTypes := #[49, 49] })
    (xs : List Int) (p q : Int) (hs : a.eval s = v) (hx : a.eval x = .slice (some ⟨W.heap.size, 0, none⟩) 2 2) (HO : (Kd.int .u8).R 5 W base (fun _ => True) v xs) (HB : Below base w0 W) (hbase : base ≤ W.heap.size) (hl : xs.length + 2 ≤ 140737488355328)
    (h : ∀ v1 w1, Kp ((Kd.int .u8).R 5 w1 base (fun _ => True) v1 (xs ++ [p, q])) → Kp (Below base w0 w1) → Kp (base ≤ w1.heap.size) → wpList Tryd.prog ops Q rest (a.put o.dst v1) w1) :
    wpList Tryd.prog ops Q (o :: rest) a (W.alloc (.cells #[.int .u8 p, .int .u8 q] 5)) :=
  app_bytes (w0 := w0) hgd ho xs [p, q] (some ⟨W.heap.size, 0, none⟩) 2 2 hs hx (Kd.R_below HO ((Below.refl W.heap.size W).alloc (Nat.le_refl _) _)) (R_C (lit_bytes W W.heap.size [p, q] (Nat.le_refl _) (by simp))).1 (HB.alloc hbase _) (by simp; omega) hl h
end Go.Proofs.YtimaliamidgflaaDoor
