/-
  Several texts of this seat in one: LbA, LbB, LbC, LbD, LbE, LbF.
-/
import Derived.Test.YtimaliamidgflaaDoorRevS
import Derived.Test.YtimaliamidgflaaDoorCloneS
import Derived.Test.YtimaliamidgflaaDoorNameD
import Derived.Test.YtimaliamidgflaaDoorEnvM
import Derived.Maps.OwnOps
import Derived.Maps.Views
import Derived.WalkSpells
import Derived.Deep.DeepCutAuto
import Derived.Test.YtimaliamidgflaaDoorCatI
import Derived.Test.YtimaliamidgflaaDoorRevR
import Derived.Test.YtimaliamidgflaaDoorCloneI
import Derived.Maps.OwnSet
import Derived.Deep.QuietTactic
import Derived.BigQuiet
namespace Go.Proofs.YtimaliamidgflaaDoor
open Go.RowKit Go.Proofs.YtimaliamidgflaaDoorW.PrintWords
set_option linter.unusedVariables false
set_option linter.unusedSimpArgs false
set_option maxRecDepth 100000
set_option maxHeartbeats 1000000

theorem reverseS_none (A : Option Addr) (c : Nat) (w : World) : Calls Tryd.prog 55 #[.slice A 0 c] w fun e w' => e = .returned (.tuple #[]) ∧ w = w' := by
  go_enter Tryd.func55, Tryd.ntmps55
  go_wp2_with (fail)
  refine wp_loop_rounds 1 ?_
  rw [rounds_succ]
  go_wp2
  go_returns
  exact ⟨rfl, rfl⟩
/-- A name's labels, the last one first. -/
def pathOf (s : L) : List L := (labelsOf s).reverse
theorem labels_few (s : L) : (labelsOf s).length ≤ s.length + 1 := by
  have h := labels_sz s
  have h2 := len_sz0 (labelsOf s)
  split at h <;> omega
where
  len_sz0 (l : List L) : l.length + 1 ≤ sizeOf_ l := by
    induction l with
    | nil => simp [sizeOf_]
    | cons x l ih => simp [sizeOf_] at ih ⊢; omega
theorem way_calls (s : ByteArray) (w : World) (hE : EnvM w) (hs : s.size ≤ 100000) : Calls Tryd.prog 35 #[.string s] w (Gives strsK ((pathOf s.data.toList).map mkB) w) := by
  have HS := Kp.mk (StM.start hE)
  have hfew := labels_few s.data.toList
  have hsz : s.data.toList.length = s.size := data_length s
  have HL := Kp.mk (labelsM_calls s w hE (by omega))
  have hp : (pathOf s.data.toList).map mkB = ((labelsOf s.data.toList).map mkB).reverse := by rw [pathOf, List.map_reverse]
  rw [hp]
  obtain ⟨xs, hxs⟩ : ∃ xs, (labelsOf s.data.toList).map mkB = xs := ⟨_, rfl⟩
  have hxl : xs.length = (labelsOf s.data.toList).length := by rw [← hxs, List.length_map]
  have hxn : xs.length ≤ 100001 := by omega
  rw [hxs] at HL ⊢
  clear hE hp hxs hxl hfew hsz
  go_enter Tryd.func35, Tryd.ntmps35
  go_wp2_with (fail)
  refine gsM_ HL.out HS ?_
  intro A c w1 hc hcm HC HM HB1 HS1
  go_wp2_with (fail)
  refine gsM_ (cloneS_calls A xs.length c xs _ HC.out (by omega)) HS1 ?_
  intro A2 c2 w2 hc2 hcm2 HC2 HM2 HB2 HS2
  obtain ⟨v2, hv2, hR2⟩ := HM2.out
  obtain rfl := List.singleton_inj.1 hv2
  have HR2 := Kp.mk hR2
  clear hR2 hv2
  by_cases h0 : xs.length = 0
  · obtain rfl : xs = [] := List.eq_nil_of_length_eq_zero h0
    go_wp2_with (fail)
    refine q_ (reverseS_none A2 c2 _) ?_
    go_wp2
    go_ret
    exact ⟨_, rfl, ⟨_, rfl, Kd.R_lower HR2.out HS1.out.size⟩, HS2.out.below⟩
  · obtain ⟨g, rfl, hg, -⟩ := R_form HR2.out (by omega)
    go_wp2_with (fail)
    refine (reverseS_calls g c2 xs _ _ HR2.out).mono ?_
    rintro e w3 ⟨rfl, hR3, hb3⟩
    have HR3 := Kp.mk hR3
    have HB3 := Kp.mk ((Below.refl w1.heap.size w2).grown hb3 HB2.out.size (fun k hk => by obtain rfl := Option.some.inj hk; exact hg))
    clear hR3 hb3
    go_wp2
    go_ret
    exact ⟨_, rfl, ⟨_, rfl, Kd.R_lower HR3.out HS1.out.size⟩, HS2.out.below.trans (HB3.out.mono HS1.out.size)⟩
end Go.Proofs.YtimaliamidgflaaDoor

namespace Go.Proofs.YtimaliamidgflaaDoor
open Go.RowKit Go.Proofs.YtimaliamidgflaaDoorW.PrintWords Go.Maps
set_option linter.unusedVariables false
set_option linter.unusedSimpArgs false
set_option maxRecDepth 100000
set_option maxHeartbeats 1000000

/-- A pattern: its labels, the last one first. -/
structure Pat where
  path : List L
  wild : Bool
  id : Int
/-- What stands for a name (b: for what is under it). -/
def idsAt (ps : List Pat) (p : List L) (b : Bool) : List Int := (ps.filter fun x => decide (x.path = p) && x.wild == b).map Pat.id
theorem idsAt_same (ps : List Pat) (p : List L) (b : Bool) (i : Int) : idsAt (ps ++ [⟨p, b, i⟩]) p b = idsAt ps p b ++ [i] := by simp [idsAt]
theorem idsAt_other (ps : List Pat) (x : Pat) (p : List L) (b : Bool) (h : ¬ (x.path = p ∧ x.wild = b)) : idsAt (ps ++ [x]) p b = idsAt ps p b := by
  have : (decide (x.path = p) && x.wild == b) = false := by
    rw [Bool.and_eq_false_iff]
    by_cases h1 : x.path = p
    · exact .inr (by simpa using fun h2 => h ⟨h1, h2⟩)
    · exact .inl (by simpa using h1)
  simp [idsAt, List.filter_append, this]
theorem idsAt_none (ps : List Pat) (p : List L) (b : Bool) (h : ∀ x ∈ ps, x.path ≠ p) : idsAt ps p b = [] := by
  rw [idsAt, List.map_eq_nil_iff, List.filter_eq_nil_iff]
  intro x hx
  simp [h x hx]
theorem idsAt_len (ps : List Pat) (p : List L) (b : Bool) : (idsAt ps p b).length ≤ ps.length := by
  rw [idsAt, List.length_map]
  exact List.length_filter_le ..

/-- A node: its block, its rows, its map. -/
structure Nd where
  blk : Nat
  row : Bool → Value
  mv : Option Nat
  D : DataW Unit
/-- A node's address in a map. -/
def ptrElem (v : Value) : Option (DataW Unit × List MemPlace) :=
  match v with
  | .pointer none => some (.nil, [])
  | .pointer (some ⟨b, 0, none⟩) => some (.lit (.int .i64 b), [])
  | _ => none
def ptrD : Option Nat → DataW Unit
  | none => .nil
  | some b => .lit (.int .i64 b)
def ptrV : Option Nat → Value
  | none => .pointer none
  | some b => .pointer (some ⟨b, 0, none⟩)
theorem ptrElem_V (x : Option Nat) : ptrElem (ptrV x) = some (ptrD x, []) := by cases x <;> rfl
theorem ptrD_inj {x y : Option Nat} (h : ptrD x = ptrD y) : x = y := by
  cases x <;> cases y <;> simp [ptrD] at h ⊢
  omega
theorem ptrElem_inv {v : Value} {x : Option Nat} {ps : List MemPlace} (h : ptrElem v = some (ptrD x, ps)) : v = ptrV x := by
  unfold ptrElem at h
  split at h
  · have := ptrD_inj (x := none) (y := x) (by simpa [ptrD] using congrArg Prod.fst (Option.some.inj h))
    subst this; rfl
  · rename_i b
    have := ptrD_inj (x := some b) (y := x) (by simpa [ptrD] using congrArg Prod.fst (Option.some.inj h))
    subst this; rfl
  · cases h
def childOf (nd : Nd) (s : L) : DataW Unit :=
  match nd.mv with
  | none => .nil
  | some _ => nd.D.atKey (.string s) .nil
theorem strKey : Keyed Tryd.prog 9 := string_keyed Tryd.underlying9

structure NodeOK (w : World) (B K : Nat) (ps : List Pat) (p : List L) (nd : Nd) : Prop where
  blk : w.heap[nd.blk]? = some (.cells #[nd.row false, nd.row true, .map nd.mv] 73 (0, 0))
  lo : B ≤ nd.blk
  row : ∀ b, (Kd.int .i64).R 3 w B (fun _ => True) (nd.row b) (idsAt ps p b)
  map : ∀ m, nd.mv = some m → B ≤ m ∧ w.ownsMap Tryd.prog 9 ptrElem m K nd.D ∧ IsMap nd.D
/-- A row, where one block alone has turned. -/
theorem R_only {w w' : World} {z B : Nat} {v : Value} {xs : List Int} (h : (Kd.int .i64).R 3 w B (fun _ => True) v xs) (hk : ∀ k, k < w.heap.size → k ≠ z → w'.heap[k]? = w.heap[k]?) (hz : v.ownBlock ≠ some z) : (Kd.int .i64).R 3 w' B (fun _ => True) v xs :=
  Kd.R_of_own (own_move (Kd.own_of_R h) (fun k hv => hk k (own_lt (Kd.own_of_R h) k hv) (fun e => hz (by rw [hv, e])))) (fun _ _ => trivial)
theorem map_only {w w' : World} {z m K : Nat} {D : DataW Unit} (h : w.ownsMap Tryd.prog 9 ptrElem m K D) (hk : ∀ k, k < w.heap.size → k ≠ z → w'.heap[k]? = w.heap[k]?) (hz : m ≠ z) : w'.ownsMap Tryd.prog 9 ptrElem m K D := by
  have hl := h.lt
  obtain ⟨es, clock, hb, F, hs, hD⟩ := h
  exact ⟨es, clock, (hk m hl hz).trans hb, F, hs, hD⟩
theorem NodeOK.only {w w' : World} {z B K K' : Nat} {ps : List Pat} {p : List L} {nd : Nd} (h : NodeOK w B K ps p nd) (hK : K ≤ K') (hk : ∀ k, k < w.heap.size → k ≠ z → w'.heap[k]? = w.heap[k]?) (h1 : nd.blk ≠ z) (h2 : nd.mv ≠ some z) (h3 : ∀ b, (nd.row b).ownBlock ≠ some z) : NodeOK w' B K' ps p nd where
  blk := (hk _ (heap_lt h.blk) h1).trans h.blk
  lo := h.lo
  row := fun b => R_only (h.row b) hk (h3 b)
  map := fun m hm => ⟨(h.map m hm).1, (map_only (h.map m hm).2.1 hk (fun e => h2 (by rw [hm, e]))).mono hK, (h.map m hm).2.2⟩
/-- A row's block is no node's, a map's no row's, and so on. -/
theorem NodeOK.row_ty {w : World} {B K : Nat} {ps : List Pat} {p : List L} {nd : Nd} (h : NodeOK w B K ps p nd) (b : Bool) (k : Nat) (hk : (nd.row b).ownBlock = some k) : ∃ cells, w.heap[k]? = some (.cells cells 3 (0, 0)) := own_typed (Kd.own_of_R (h.row b)) k hk
theorem NodeOK.map_ty {w : World} {B K : Nat} {ps : List Pat} {p : List L} {nd : Nd} (h : NodeOK w B K ps p nd) (m : Nat) (hm : nd.mv = some m) : ∃ es c, w.heap[m]? = some (.map es c) := by
  obtain ⟨-, ⟨es, clock, hb, -⟩, -⟩ := h.map m hm
  exact ⟨es, clock, hb⟩

structure Inv (w : World) (B K top : Nat) (F : List L → Option Nd) (ps : List Pat) : Prop where
  node : ∀ p nd, F p = some nd → NodeOK w B K ps p nd
  blks : ∀ p q nd nd', F p = some nd → F q = some nd' → nd.blk = nd'.blk → p = q
  maps : ∀ p q nd nd' m, F p = some nd → F q = some nd' → nd.mv = some m → nd'.mv = some m → p = q
  rows : ∀ p q nd nd' b c k, F p = some nd → F q = some nd' → (nd.row b).ownBlock = some k → (nd'.row c).ownBlock = some k → p = q ∧ b = c
  child : ∀ p nd s, F p = some nd → childOf nd s = ptrD ((F (p ++ [s])).map Nd.blk)
  root : ∃ nd, F [] = some nd ∧ nd.blk = top
  pats : ∀ x ∈ ps, (F x.path).isSome = true
  up : ∀ p s, (F (p ++ [s])).isSome = true → (F p).isSome = true
theorem Inv.below {w w' : World} {B K top : Nat} {F : List L → Option Nd} {ps : List Pat} (h : Inv w B K top F ps) (hb : Below w.heap.size w w') : Inv w' B K top F ps :=
  { h with node := fun p nd hF => (h.node p nd hF).only (z := w.heap.size) (Nat.le_refl _) (fun k hk _ => hb.block k hk) (by have := heap_lt (h.node p nd hF).blk; omega) (fun e => by
      obtain ⟨es, c, hm⟩ := (h.node p nd hF).map_ty _ e
      have := heap_lt hm; omega) (fun b e => by
      obtain ⟨cs, hm⟩ := (h.node p nd hF).row_ty b _ e
      have := heap_lt hm; omega) }
/-- The count beside it turns nothing. -/
theorem Inv.count {w : World} {B K top tb : Nat} {F : List L → Option Nd} {ps : List Pat} {cs : Array Value} (h : Inv w B K top F ps) (htb : w.heap[tb]? = some (.cells cs 75 (0, 0))) {v : Value} (i : Nat) : Inv (w.setCell ⟨tb, i, none⟩ v) B K top F ps :=
  { h with node := fun p nd hF => (h.node p nd hF).only (z := tb) (Nat.le_refl _) (fun k _ hne => Below.heap_setCell _ _ _ _ (by simpa using hne)) (fun e => by
      have h1 := (h.node p nd hF).blk
      rw [e, htb] at h1
      injection h1 with h1
      injection h1 with _ h2
      exact absurd h2 (by decide)) (fun e => by
      obtain ⟨es, c, hm⟩ := (h.node p nd hF).map_ty _ e
      rw [htb] at hm
      injection hm with hm
      cases hm) (fun b e => by
      obtain ⟨cs', hm⟩ := (h.node p nd hF).row_ty b _ e
      rw [htb] at hm
      injection hm with hm
      injection hm with _ h2
      exact absurd h2 (by decide)) }
theorem Inv.mono {w : World} {B K K' top : Nat} {F : List L → Option Nd} {ps : List Pat} (h : Inv w B K top F ps) (hK : K ≤ K') : Inv w B K' top F ps :=
  { h with node := fun p nd hF => (h.node p nd hF).only (z := w.heap.size) hK (fun _ _ _ => rfl) (by have := heap_lt (h.node p nd hF).blk; omega) (fun e => by
      obtain ⟨es, c, hm⟩ := (h.node p nd hF).map_ty _ e
      have := heap_lt hm; omega) (fun b e => by
      obtain ⟨cs, hm⟩ := (h.node p nd hF).row_ty b _ e
      have := heap_lt hm; omega) }
def put (F : List L → Option Nd) (p : List L) (nd : Nd) : List L → Option Nd := fun q => if q = p then some nd else F q
theorem put_same (F : List L → Option Nd) (p : List L) (nd : Nd) : put F p nd p = some nd := if_pos rfl
theorem put_other (F : List L → Option Nd) (p q : List L) (nd : Nd) (h : q ≠ p) : put F p nd q = F q := if_neg h
theorem put_cases {F : List L → Option Nd} {p q : List L} {nd nd' : Nd} (h : put F p nd q = some nd') : (q = p ∧ nd' = nd) ∨ (q ≠ p ∧ F q = some nd') := by
  by_cases e : q = p
  · subst e
    rw [put_same] at h
    exact .inl ⟨rfl, (Option.some.inj h).symm⟩
  · rw [put_other _ _ _ _ e] at h
    exact .inr ⟨e, h⟩
theorem snoc_ne (p : List L) (s : L) : p ++ [s] ≠ p := by
  intro h
  have := congrArg List.length h
  simp at this

section
variable {w w' : World} {B K top : Nat} {F : List L → Option Nd} {ps : List Pat} {p : List L} {nd : Nd}
/-- A node's block is no row's. -/
theorem Inv.blk_row (h : Inv w B K top F ps) (hF : F p = some nd) {q : List L} {nd' : Nd} (hq : F q = some nd') (b : Bool) : (nd'.row b).ownBlock ≠ some nd.blk := fun e => by
  obtain ⟨cs, h1⟩ := (h.node q nd' hq).row_ty b _ e
  rw [(h.node p nd hF).blk] at h1
  injection h1 with h1
  injection h1 with _ h1
  exact absurd h1 (by decide)
theorem Inv.blk_map (h : Inv w B K top F ps) (hF : F p = some nd) {q : List L} {nd' : Nd} (hq : F q = some nd') : nd'.mv ≠ some nd.blk := fun e => by
  obtain ⟨es, c, h1⟩ := (h.node q nd' hq).map_ty _ e
  rw [(h.node p nd hF).blk] at h1
  injection h1 with h1
  cases h1
theorem Inv.map_row (h : Inv w B K top F ps) (hF : F p = some nd) {m : Nat} (hm : nd.mv = some m) {q : List L} {nd' : Nd} (hq : F q = some nd') (b : Bool) : (nd'.row b).ownBlock ≠ some m := fun e => by
  obtain ⟨cs, h1⟩ := (h.node q nd' hq).row_ty b _ e
  obtain ⟨es, c, h2⟩ := (h.node p nd hF).map_ty _ hm
  rw [h2] at h1
  injection h1 with h1
  cases h1
theorem Inv.lt_blk (h : Inv w B K top F ps) (hF : F p = some nd) : nd.blk < w.heap.size := heap_lt (h.node p nd hF).blk
theorem Inv.lt_map (h : Inv w B K top F ps) (hF : F p = some nd) {m : Nat} (hm : nd.mv = some m) : m < w.heap.size := by
  obtain ⟨es, c, h1⟩ := (h.node p nd hF).map_ty _ hm
  exact heap_lt h1
theorem Inv.lt_row (h : Inv w B K top F ps) (hF : F p = some nd) {b : Bool} {k : Nat} (hk : (nd.row b).ownBlock = some k) : k < w.heap.size := by
  obtain ⟨cs, h1⟩ := (h.node p nd hF).row_ty b _ hk
  exact heap_lt h1

/-- The blocks of a trie. -/
def foot (F : List L → Option Nd) (k : Nat) : Prop := ∃ p nd, F p = some nd ∧ (nd.blk = k ∨ nd.mv = some k ∨ ∃ b, (nd.row b).ownBlock = some k)
theorem NodeOK.same (h : NodeOK w B K ps p nd) (hk : ∀ k, (nd.blk = k ∨ nd.mv = some k ∨ ∃ b, (nd.row b).ownBlock = some k) → w'.heap[k]? = w.heap[k]?) : NodeOK w' B K ps p nd where
  blk := (hk _ (.inl rfl)).trans h.blk
  lo := h.lo
  row := fun b => Kd.R_of_own (own_move (Kd.own_of_R (h.row b)) (fun k hv => hk k (.inr (.inr ⟨b, hv⟩)))) (fun _ _ => trivial)
  map := fun m hm => by
    obtain ⟨h1, ⟨es, clock, hb, G, hs, hD⟩, h3⟩ := h.map m hm
    exact ⟨h1, ⟨es, clock, (hk m (.inr (.inl hm))).trans hb, G, hs, hD⟩, h3⟩
theorem Inv.same (h : Inv w B K top F ps) (hk : ∀ k, foot F k → w'.heap[k]? = w.heap[k]?) : Inv w' B K top F ps :=
  { h with node := fun p nd hF => (h.node p nd hF).same (fun k hk' => hk k ⟨p, nd, hF, hk'⟩) }
theorem Inv.foot_lt (h : Inv w B K top F ps) {k : Nat} (hk : foot F k) : k < w.heap.size := by
  obtain ⟨p, nd, hF, rfl | hm | ⟨b, hb⟩⟩ := hk
  · exact h.lt_blk hF
  · exact h.lt_map hF hm
  · exact h.lt_row hF hb
theorem foot_put {k : Nat} {nd' : Nd} (h : foot (put F p nd') k) : foot F k ∨ (nd'.blk = k ∨ nd'.mv = some k ∨ ∃ b, (nd'.row b).ownBlock = some k) := by
  obtain ⟨q, a, hq, hk⟩ := h
  rcases put_cases hq with ⟨rfl, rfl⟩ | ⟨hne, hq'⟩
  · exact .inr hk
  · exact .inl ⟨q, a, hq', hk⟩

/-- A node gets a map. -/
theorem Inv.newmap (h : Inv w B K top F ps) (hF : F p = some nd) (hm : nd.mv = none) (hB : B ≤ w.heap.size) :
    Inv ((w.alloc (.map #[] 0)).setCell ⟨nd.blk, 2, none⟩ (.map (some w.heap.size))) B K top (put F p ⟨nd.blk, nd.row, some w.heap.size, .map []⟩) ps := by
  have hlt := h.lt_blk hF
  have hk : ∀ k, k < w.heap.size → k ≠ nd.blk → ((w.alloc (.map #[] 0)).setCell ⟨nd.blk, 2, none⟩ (.map (some w.heap.size))).heap[k]? = w.heap[k]? := fun k hk hne =>
    (Below.heap_setCell _ _ _ _ (by simpa using hne)).trans (Below.heap_alloc _ _ _ hk)
  have hn := h.node p nd hF
  have hb : (w.alloc (.map #[] 0)).heap[nd.blk]? = some (.cells #[nd.row false, nd.row true, .map nd.mv] 73 (0, 0)) := (Below.heap_alloc _ _ _ hlt).trans hn.blk
  constructor
  · intro q nd' hq
    rcases put_cases hq with ⟨rfl, rfl⟩ | ⟨hne, hq'⟩
    · refine ⟨blk_put hb 2 _ rfl, hn.lo, fun b => R_only (hn.row b) hk (h.blk_row hF hF b), fun m hm' => ?_⟩
      obtain rfl := Option.some.inj hm'
      refine ⟨hB, ?_, isMap_empty⟩
      refine map_only (z := nd.blk) (((w.ownsMap_made Tryd.prog 9 ptrElem).mono (Nat.zero_le K))) (fun k hk2 hne => Below.heap_setCell _ _ _ _ (by simpa using hne)) (by omega)
    · exact (h.node q nd' hq').only (Nat.le_refl _) hk (fun e => hne (h.blks q p nd' nd hq' hF e)) (h.blk_map hF hq') (h.blk_row hF hq')
  · intro q r a b hq hr e
    rcases put_cases hq with ⟨rfl, rfl⟩ | ⟨hne, hq'⟩ <;> rcases put_cases hr with ⟨rfl, rfl⟩ | ⟨hne2, hr'⟩
    · rfl
    · exact h.blks _ _ _ _ hF hr' e
    · exact h.blks _ _ _ _ hq' hF e
    · exact h.blks _ _ _ _ hq' hr' e
  · intro q r a b m hq hr ha hb'
    rcases put_cases hq with ⟨rfl, rfl⟩ | ⟨hne, hq'⟩ <;> rcases put_cases hr with ⟨rfl, rfl⟩ | ⟨hne2, hr'⟩
    · rfl
    · obtain rfl := Option.some.inj ha
      exact absurd (h.lt_map hr' hb') (Nat.lt_irrefl _)
    · obtain rfl := Option.some.inj hb'
      exact absurd (h.lt_map hq' ha) (Nat.lt_irrefl _)
    · exact h.maps _ _ _ _ m hq' hr' ha hb'
  · intro q r a b x y k hq hr ha hb'
    rcases put_cases hq with ⟨rfl, rfl⟩ | ⟨hne, hq'⟩ <;> rcases put_cases hr with ⟨rfl, rfl⟩ | ⟨hne2, hr'⟩
    · exact h.rows _ _ nd nd x y k hF hF ha hb'
    · exact h.rows _ _ nd b x y k hF hr' ha hb'
    · exact h.rows _ _ a nd x y k hq' hF ha hb'
    · exact h.rows _ _ a b x y k hq' hr' ha hb'
  · intro q a s hq
    have hmap : ∀ r, (put F p ⟨nd.blk, nd.row, some w.heap.size, .map []⟩ r).map Nd.blk = (F r).map Nd.blk := fun r => by
      by_cases e : r = p
      · subst e; rw [put_same, hF]; rfl
      · rw [put_other _ _ _ _ e]
    rw [hmap]
    rcases put_cases hq with ⟨rfl, rfl⟩ | ⟨hne, hq'⟩
    · have := h.child q nd s hF
      rw [← this, childOf, childOf, hm]
      rfl
    · exact h.child q a s hq'
  · obtain ⟨r, h1, h2⟩ := h.root
    by_cases e : ([] : List L) = p
    · subst e
      rw [hF] at h1
      obtain rfl := Option.some.inj h1
      exact ⟨_, put_same .., h2⟩
    · exact ⟨r, by rw [put_other _ _ _ _ e]; exact h1, h2⟩
  · intro x hx
    by_cases e : x.path = p
    · rw [e, put_same]; rfl
    · rw [put_other _ _ _ _ e]; exact h.pats x hx
  · intro q s hs
    by_cases e : q = p
    · rw [e, put_same]; rfl
    · rw [put_other _ _ _ _ e]
      by_cases e2 : q ++ [s] = p
      · exact h.up q s (by rw [e2, hF]; rfl)
      · rw [put_other _ _ _ _ e2] at hs
        exact h.up q s hs

/-- A node gets a new node below it. -/
theorem Inv.newchild (h : Inv w B K top F ps) (hF : F p = some nd) {m : Nat} (hm : nd.mv = some m) (s : L) (hnone : childOf nd s = .nil) (hB : B ≤ w.heap.size)
    (ho : w'.ownsMap Tryd.prog 9 ptrElem m (K + 1) (nd.D.put (.string s) (ptrD (some w.heap.size)))) (hg : (w.alloc (.cells #[.slice none 0 0, .slice none 0 0, .map none] 73)).grownBy w' (some m)) :
    Inv w' B (K + 1) top (put (put F p ⟨nd.blk, nd.row, some m, nd.D.put (.string s) (ptrD (some w.heap.size))⟩) (p ++ [s]) ⟨w.heap.size, fun _ => .slice none 0 0, none, .map []⟩) ps := by
  have hlt := h.lt_blk hF
  have hmlt := h.lt_map hF hm
  have hn := h.node p nd hF
  have hpn : F (p ++ [s]) = none := by
    have h1 := h.child p nd s hF
    rw [hnone] at h1
    cases h2 : F (p ++ [s]) with
    | none => rfl
    | some x => rw [h2] at h1; simp [ptrD] at h1
  have hdeep : ∀ t, F (p ++ [s] ++ [t]) = none := fun t => by
    cases h2 : F (p ++ [s] ++ [t]) with
    | none => rfl
    | some x =>
      have := h.up (p ++ [s]) t (by rw [h2]; rfl)
      rw [hpn] at this
      cases this
  have hk : ∀ k, k < w.heap.size → k ≠ m → w'.heap[k]? = w.heap[k]? := fun k hk hne =>
    (hg.block k (by simp; omega) (fun e => hne (Option.some.inj e))).trans (Below.heap_alloc _ _ _ hk)
  have hnew : w'.heap[w.heap.size]? = some (.cells #[.slice none 0 0, .slice none 0 0, .map none] 73 (0, 0)) :=
    (hg.block _ (by simp) (fun e => by have := Option.some.inj e; omega)).trans (heap_new _ _)
  have key : ∀ q nd', put (put F p ⟨nd.blk, nd.row, some m, nd.D.put (.string s) (ptrD (some w.heap.size))⟩) (p ++ [s]) ⟨w.heap.size, fun _ => .slice none 0 0, none, .map []⟩ q = some nd' →
      (q = p ++ [s] ∧ nd' = ⟨w.heap.size, fun _ => .slice none 0 0, none, .map []⟩) ∨ (q = p ∧ nd' = ⟨nd.blk, nd.row, some m, nd.D.put (.string s) (ptrD (some w.heap.size))⟩) ∨ (q ≠ p ∧ q ≠ p ++ [s] ∧ F q = some nd') := by
    intro q nd' hq
    rcases put_cases hq with h1 | ⟨hne, hq'⟩
    · exact .inl h1
    · rcases put_cases hq' with h2 | ⟨hne2, hq2⟩
      · exact .inr (.inl h2)
      · exact .inr (.inr ⟨hne2, hne, hq2⟩)
  constructor
  · intro q nd' hq
    rcases key q nd' hq with ⟨rfl, rfl⟩ | ⟨rfl, rfl⟩ | ⟨hne, -, hq'⟩
    · refine ⟨hnew, hB, fun b => ?_, fun m' hm' => by cases hm'⟩
      rw [idsAt_none ps (p ++ [s]) b (fun x hx e => by have := h.pats x hx; rw [e, hpn] at this; cases this)]
      exact Kd.R_nil _ _ _ _ _
    · refine ⟨by rw [← hm]; exact (hk _ hlt (fun e => h.blk_map hF hF (by rw [hm, e]))).trans hn.blk, hn.lo, fun b => R_only (hn.row b) hk (h.map_row hF hm hF b), fun m' hm' => ?_⟩
      obtain rfl := Option.some.inj hm'
      exact ⟨(hn.map _ hm).1, ho, (hn.map _ hm).2.2.put _ _⟩
    · exact (h.node q nd' hq').only (Nat.le_succ K) hk (fun e => h.blk_map hq' hF (by rw [hm, e])) (fun e => hne (h.maps q p nd' nd m hq' hF e hm)) (h.map_row hF hm hq')
  · intro q r a b hq hr e
    rcases key q a hq with ⟨rfl, rfl⟩ | ⟨rfl, rfl⟩ | ⟨hne, -, hq'⟩ <;> rcases key r b hr with ⟨rfl, rfl⟩ | ⟨rfl, rfl⟩ | ⟨hne2, -, hr'⟩
    · rfl
    · exact absurd e (by show ¬ w.heap.size = nd.blk; omega)
    · exact absurd (h.lt_blk hr') (by rw [← e]; exact Nat.lt_irrefl _)
    · exact absurd e (by show ¬ nd.blk = w.heap.size; omega)
    · rfl
    · exact h.blks _ _ _ _ hF hr' e
    · exact absurd (h.lt_blk hq') (by rw [e]; exact Nat.lt_irrefl _)
    · exact h.blks _ _ _ _ hq' hF e
    · exact h.blks _ _ _ _ hq' hr' e
  · intro q r a b m' hq hr ha hb'
    rcases key q a hq with ⟨rfl, rfl⟩ | ⟨rfl, rfl⟩ | ⟨hne, -, hq'⟩ <;> rcases key r b hr with ⟨rfl, rfl⟩ | ⟨rfl, rfl⟩ | ⟨hne2, -, hr'⟩
    · rfl
    · cases ha
    · cases ha
    · cases hb'
    · rfl
    · exact h.maps _ _ _ _ m' hF hr' (hm.trans ha) hb'
    · cases hb'
    · exact h.maps _ _ _ _ m' hq' hF ha (hm.trans hb')
    · exact h.maps _ _ _ _ m' hq' hr' ha hb'
  · intro q r a b x y k hq hr ha hb'
    rcases key q a hq with ⟨rfl, rfl⟩ | ⟨rfl, rfl⟩ | ⟨hne, -, hq'⟩ <;> rcases key r b hr with ⟨rfl, rfl⟩ | ⟨rfl, rfl⟩ | ⟨hne2, -, hr'⟩
    · simp [Value.ownBlock] at ha
    · simp [Value.ownBlock] at ha
    · simp [Value.ownBlock] at ha
    · simp [Value.ownBlock] at hb'
    · exact h.rows _ _ nd nd x y k hF hF ha hb'
    · exact h.rows _ _ nd b x y k hF hr' ha hb'
    · simp [Value.ownBlock] at hb'
    · exact h.rows _ _ a nd x y k hq' hF ha hb'
    · exact h.rows _ _ a b x y k hq' hr' ha hb'
  · intro q a t hq
    have hmap : ∀ r, r ≠ p ++ [s] → (put (put F p ⟨nd.blk, nd.row, some m, nd.D.put (.string s) (ptrD (some w.heap.size))⟩) (p ++ [s]) ⟨w.heap.size, fun _ => .slice none 0 0, none, .map []⟩ r).map Nd.blk = (F r).map Nd.blk := fun r hne => by
      rw [put_other _ _ _ _ hne]
      by_cases e : r = p
      · subst e; rw [put_same, hF]; rfl
      · rw [put_other _ _ _ _ e]
    rcases key q a hq with ⟨rfl, rfl⟩ | ⟨rfl, rfl⟩ | ⟨hne, hne2, hq'⟩
    · rw [hmap _ (fun e => by have := congrArg List.length e; simp at this), hdeep]
      rfl
    · have hM := (hn.map _ hm).2.2
      by_cases ht : t = s
      · subst ht
        rw [put_same]
        exact atKey_put_same hM (by trivial) _ _
      · have hne : q ++ [t] ≠ q ++ [s] := fun e => ht (by simpa using e)
        rw [hmap _ hne]
        have h1 := h.child q nd t hF
        rw [← h1, childOf, childOf, hm]
        exact atKey_put_other (fun e => ht (by simpa using e)) _ _
    · rw [hmap _ (fun e => hne (by simpa using (List.append_inj' e rfl).1))]
      exact h.child q a t hq'
  · obtain ⟨r, h1, h2⟩ := h.root
    rcases Classical.em (([] : List L) = p) with e | e
    · subst e
      rw [hF] at h1
      obtain rfl := Option.some.inj h1
      exact ⟨⟨nd.blk, nd.row, some m, nd.D.put (.string s) (ptrD (some w.heap.size))⟩, by rw [put_other _ _ _ _ (by simp)]; exact put_same .., h2⟩
    · exact ⟨r, by rw [put_other _ _ _ _ (by simp), put_other _ _ _ _ e]; exact h1, h2⟩
  · intro x hx
    have hne : x.path ≠ p ++ [s] := fun e => by have := h.pats x hx; rw [e, hpn] at this; cases this
    rw [put_other _ _ _ _ hne]
    by_cases e : x.path = p
    · rw [e, put_same]; rfl
    · rw [put_other _ _ _ _ e]; exact h.pats x hx
  · intro q t hs
    by_cases e0 : q = p ++ [s]
    · rw [e0, put_same]; rfl
    rw [put_other _ _ _ _ e0]
    by_cases e : q = p
    · rw [e, put_same]; rfl
    rw [put_other _ _ _ _ e]
    have hne : q ++ [t] ≠ p ++ [s] := fun e2 => e (by simpa using (List.append_inj' e2 rfl).1)
    rw [put_other _ _ _ _ hne] at hs
    by_cases e2 : q ++ [t] = p
    · exact h.up q t (by rw [e2, hF]; rfl)
    · rw [put_other _ _ _ _ e2] at hs
      exact h.up q t hs
/-- A row of a node gets one more. -/
theorem Inv.push (h : Inv w B K top F ps) (hF : F p = some nd) (b : Bool) (i : Int) (v1 : Value) (hB : B ≤ w.heap.size)
    (hR : (Kd.int .i64).R 3 w' B (fun _ => True) v1 (idsAt ps p b ++ [i])) (hg : w.grownBy w' (nd.row b).ownBlock) (hv : v1.ownBlock = (nd.row b).ownBlock ∨ ∃ k, v1.ownBlock = some k ∧ w.heap.size ≤ k) :
    Inv (w'.setCell ⟨nd.blk, if b then 1 else 0, none⟩ v1) B K top (put F p ⟨nd.blk, fun c => if c = b then v1 else nd.row c, nd.mv, nd.D⟩) (ps ++ [⟨p, b, i⟩]) := by
  have hlt := h.lt_blk hF
  have hn := h.node p nd hF
  have hb1 : w'.heap[nd.blk]? = some (.cells #[nd.row false, nd.row true, .map nd.mv] 73 (0, 0)) := (hg.block _ hlt (fun e => h.blk_row hF hF b e.symm)).trans hn.blk
  have hk2 : ∀ k, k < w'.heap.size → k ≠ nd.blk → (w'.setCell ⟨nd.blk, if b then 1 else 0, none⟩ v1).heap[k]? = w'.heap[k]? := fun k _ hne => Below.heap_setCell _ _ _ _ (by simpa using hne)
  -- another row than the one that is written
  have hrow : ∀ q nd' c, F q = some nd' → ¬ (q = p ∧ c = b) → (Kd.int .i64).R 3 (w'.setCell ⟨nd.blk, if b then 1 else 0, none⟩ v1) B (fun _ => True) (nd'.row c) (idsAt ps q c) := by
    intro q nd' c hq hne
    have h0 := (h.node q nd' hq).row c
    have h1 : (Kd.int .i64).R 3 w' B (fun _ => True) (nd'.row c) (idsAt ps q c) :=
      Kd.R_of_own (own_move (Kd.own_of_R h0) (fun k hk => hg.block k (h.lt_row hq hk) (fun e => hne (h.rows q p nd' nd c b k hq hF hk e.symm)))) (fun _ _ => trivial)
    exact R_only h1 hk2 (h.blk_row hF hq c)
  have hv1 : v1.ownBlock ≠ some nd.blk := by
    intro e
    obtain ⟨cs, h1⟩ := own_typed (Kd.own_of_R hR) _ e
    rw [hb1] at h1
    injection h1 with h1
    injection h1 with _ h1
    exact absurd h1 (by decide)
  have hmap : ∀ q nd', F q = some nd' → ∀ m, nd'.mv = some m → B ≤ m ∧ (w'.setCell ⟨nd.blk, if b then 1 else 0, none⟩ v1).ownsMap Tryd.prog 9 ptrElem m K nd'.D ∧ IsMap nd'.D := by
    intro q nd' hq m hm
    obtain ⟨h1, h2, h3⟩ := (h.node q nd' hq).map m hm
    refine ⟨h1, ?_, h3⟩
    have h4 : w'.ownsMap Tryd.prog 9 ptrElem m K nd'.D := h2.kept hg (fun e => h.map_row hq hm hF b e.symm)
    exact map_only h4 hk2 (fun e => h.blk_map hF hq (by rw [hm, e]))
  have hfresh : ∀ q nd' c k, F q = some nd' → ¬ (q = p ∧ c = b) → (nd'.row c).ownBlock = some k → v1.ownBlock ≠ some k := by
    intro q nd' c k hq hne hk e
    rcases hv with hv | ⟨k', hk', hle⟩
    · rw [hv] at e
      exact hne (h.rows q p nd' nd c b k hq hF hk e)
    · rw [hk'] at e
      obtain rfl := Option.some.inj e
      have := h.lt_row hq hk
      omega
  constructor
  · intro q nd' hq
    rcases put_cases hq with ⟨rfl, rfl⟩ | ⟨hne, hq'⟩
    · refine ⟨?_, hn.lo, fun c => ?_, hmap q nd hF⟩
      · cases b
        · exact blk_put hb1 0 v1 rfl
        · exact blk_put hb1 1 v1 rfl
      · by_cases e : c = b
        · subst e
          rw [idsAt_same]
          show (Kd.int .i64).R _ _ _ _ (if c = c then v1 else nd.row c) _
          rw [if_pos rfl]
          exact R_only hR hk2 hv1
        · rw [idsAt_other ps ⟨q, b, i⟩ q c (fun e2 => e e2.2.symm)]
          show (Kd.int .i64).R _ _ _ _ (if c = b then v1 else nd.row c) _
          rw [if_neg e]
          exact hrow q nd c hF (fun e2 => e e2.2)
    · refine ⟨(hk2 _ (by have := h.lt_blk hq'; have := hg.size; omega) (fun e => hne (h.blks q p nd' nd hq' hF e))).trans ((hg.block _ (h.lt_blk hq') (fun e => h.blk_row hq' hF b e.symm)).trans (h.node q nd' hq').blk), (h.node q nd' hq').lo, fun c => ?_, hmap q nd' hq'⟩
      rw [idsAt_other ps ⟨p, b, i⟩ q c (fun e2 => hne e2.1.symm)]
      exact hrow q nd' c hq' (fun e2 => hne e2.1)
  · intro q r a a' hq hr e
    rcases put_cases hq with ⟨rfl, rfl⟩ | ⟨hne, hq'⟩ <;> rcases put_cases hr with ⟨rfl, rfl⟩ | ⟨hne2, hr'⟩
    · rfl
    · exact h.blks _ _ _ _ hF hr' e
    · exact h.blks _ _ _ _ hq' hF e
    · exact h.blks _ _ _ _ hq' hr' e
  · intro q r a a' m hq hr ha hb'
    rcases put_cases hq with ⟨rfl, rfl⟩ | ⟨hne, hq'⟩ <;> rcases put_cases hr with ⟨rfl, rfl⟩ | ⟨hne2, hr'⟩
    · rfl
    · exact h.maps _ _ _ _ m hF hr' ha hb'
    · exact h.maps _ _ _ _ m hq' hF ha hb'
    · exact h.maps _ _ _ _ m hq' hr' ha hb'
  · intro q r a a' x y k hq hr ha hb'
    rcases put_cases hq with ⟨rfl, rfl⟩ | ⟨hne, hq'⟩ <;> rcases put_cases hr with ⟨rfl, rfl⟩ | ⟨hne2, hr'⟩
    · refine ⟨rfl, ?_⟩
      by_cases hx : x = b <;> by_cases hy : y = b
      · rw [hx, hy]
      · exact absurd (show v1.ownBlock = some k by simpa [hx] using ha) (hfresh _ nd y k hF (fun e => hy e.2) (by simpa [hy] using hb'))
      · exact absurd (show v1.ownBlock = some k by simpa [hy] using hb') (hfresh _ nd x k hF (fun e => hx e.2) (by simpa [hx] using ha))
      · exact (h.rows _ _ nd nd x y k hF hF (by simpa [hx] using ha) (by simpa [hy] using hb')).2
    · by_cases hx : x = b
      · exact absurd (show v1.ownBlock = some k by simpa [hx] using ha) (hfresh r a' y k hr' (fun e => hne2 e.1) hb')
      · exact h.rows _ _ nd a' x y k hF hr' (by simpa [hx] using ha) hb'
    · by_cases hy : y = b
      · exact absurd (show v1.ownBlock = some k by simpa [hy] using hb') (hfresh q a x k hq' (fun e => hne e.1) ha)
      · exact h.rows _ _ a nd x y k hq' hF ha (by simpa [hy] using hb')
    · exact h.rows _ _ a a' x y k hq' hr' ha hb'
  · intro q a s hq
    have hm2 : ∀ r, (put F p ⟨nd.blk, fun c => if c = b then v1 else nd.row c, nd.mv, nd.D⟩ r).map Nd.blk = (F r).map Nd.blk := fun r => by
      by_cases e : r = p
      · subst e; rw [put_same, hF]; rfl
      · rw [put_other _ _ _ _ e]
    rw [hm2]
    rcases put_cases hq with ⟨rfl, rfl⟩ | ⟨hne, hq'⟩
    · exact h.child q nd s hF
    · exact h.child q a s hq'
  · obtain ⟨r, h1, h2⟩ := h.root
    by_cases e : ([] : List L) = p
    · subst e
      rw [hF] at h1
      obtain rfl := Option.some.inj h1
      exact ⟨_, put_same .., h2⟩
    · exact ⟨r, by rw [put_other _ _ _ _ e]; exact h1, h2⟩
  · intro x hx
    by_cases e : x.path = p
    · rw [e, put_same]; rfl
    · rw [put_other _ _ _ _ e]
      rcases List.mem_append.1 hx with hx | hx
      · exact h.pats x hx
      · rw [List.mem_singleton.1 hx] at e
        exact absurd rfl e
  · intro q s hs
    by_cases e : q = p
    · rw [e, put_same]; rfl
    · rw [put_other _ _ _ _ e]
      by_cases e2 : q ++ [s] = p
      · exact h.up q s (by rw [e2, hF]; rfl)
      · rw [put_other _ _ _ _ e2] at hs
        exact h.up q s hs
end
end Go.Proofs.YtimaliamidgflaaDoor

namespace Go.Proofs.YtimaliamidgflaaDoor
open Go.RowKit Go.Proofs.YtimaliamidgflaaDoorW.PrintWords Go.Maps
set_option linter.unusedVariables false
set_option linter.unusedSimpArgs false
set_option maxRecDepth 100000
set_option maxHeartbeats 1000000

/-- How a trie lies in memory: of some patterns. -/
def TrieAt (w : World) (B K tb : Nat) (ps : List Pat) : Prop :=
  ∃ top F, w.heap[tb]? = some (.cells #[.pointer (some ⟨top, 0, none⟩), .int .i64 (ps.length : Int)] 75 (0, 0)) ∧ B ≤ tb ∧ Inv w B K top F ps
theorem TrieAt.below {w w' : World} {B K tb : Nat} {ps : List Pat} (h : TrieAt w B K tb ps) (hb : Below w.heap.size w w') : TrieAt w' B K tb ps := by
  obtain ⟨top, F, h1, h2, h3⟩ := h
  exact ⟨top, F, (hb.block _ (heap_lt h1)).trans h1, h2, h3.below hb⟩
/-- .. in some blocks alone. -/
def TrieS (S : Nat → Prop) (w : World) (B K tb : Nat) (ps : List Pat) : Prop :=
  ∃ top F, w.heap[tb]? = some (.cells #[.pointer (some ⟨top, 0, none⟩), .int .i64 (ps.length : Int)] 75 (0, 0)) ∧ B ≤ tb ∧ Inv w B K top F ps ∧ S tb ∧ ∀ k, foot F k → S k
theorem TrieS.at_ {S : Nat → Prop} {w : World} {B K tb : Nat} {ps : List Pat} (h : TrieS S w B K tb ps) : TrieAt w B K tb ps := by
  obtain ⟨top, F, h1, h2, h3, -⟩ := h
  exact ⟨top, F, h1, h2, h3⟩
theorem TrieS.of {w : World} {B K tb : Nat} {ps : List Pat} (h : TrieAt w B K tb ps) : TrieS (fun _ => True) w B K tb ps := by
  obtain ⟨top, F, h1, h2, h3⟩ := h
  exact ⟨top, F, h1, h2, h3, trivial, fun _ _ => trivial⟩
/-- What holds its blocks as they are holds it. -/
theorem TrieS.same {S : Nat → Prop} {w w' : World} {B K tb : Nat} {ps : List Pat} (h : TrieS S w B K tb ps) (hk : ∀ k, k < w.heap.size → S k → w'.heap[k]? = w.heap[k]?) : TrieS S w' B K tb ps := by
  obtain ⟨top, F, h1, h2, h3, h4, h5⟩ := h
  exact ⟨top, F, (hk _ (heap_lt h1) h4).trans h1, h2, h3.same (fun k hf => hk k (h3.foot_lt hf) (h5 k hf)), h4, h5⟩
/-- .. whatever blocks are not its own. -/
theorem TrieS.less {S S' : Nat → Prop} {w : World} {B K tb : Nat} {ps : List Pat} (h : TrieS S w B K tb ps) (hk : ∀ k, k < w.heap.size → S k → S' k) : TrieS S' w B K tb ps := by
  obtain ⟨top, F, h1, h2, h3, h4, h5⟩ := h
  exact ⟨top, F, h1, h2, h3, hk _ (heap_lt h1) h4, fun k hf => hk k (h3.foot_lt hf) (h5 k hf)⟩
/-- What Add leaves as it was, and where the trie lies by now. -/
structure Fr (S : Nat → Prop) (w0 w : World) (F : List L → Option Nd) : Prop where
  keep : ∀ k, k < w0.heap.size → ¬ S k → w.heap[k]? = w0.heap[k]?
  foot : ∀ k, foot F k → S k ∨ w0.heap.size ≤ k
theorem Fr.turn {S : Nat → Prop} {w0 w w' : World} {F F' : List L → Option Nd} {z : Option Nat} (h : Fr S w0 w F) (hsz : w0.heap.size ≤ w.heap.size) (hz : ∀ k, z = some k → S k ∨ w0.heap.size ≤ k) (hk : ∀ k, k < w.heap.size → some k ≠ z → w'.heap[k]? = w.heap[k]?)
    (hF : ∀ k, Go.Proofs.YtimaliamidgflaaDoor.foot F' k → Go.Proofs.YtimaliamidgflaaDoor.foot F k ∨ w0.heap.size ≤ k) : Fr S w0 w' F' :=
  ⟨fun k hk0 hs => (hk k (by omega) (fun e => by
    rcases hz k e.symm with h1 | h1
    · exact hs h1
    · omega)).trans (h.keep k hk0 hs), fun k hk' => (hF k hk').elim (h.foot k) .inr⟩
/-- Where Add stands, k labels down. -/
def AddAt (S : Nat → Prop) (w w0 : World) (B K tb top n0 : Nat) (ps : List Pat) (path : List L) (A : Option Addr) (c k b : Nat) : Prop :=
  ∃ F nd, F (path.take k) = some nd ∧ nd.blk = b ∧ Inv w B (K + k) top F ps ∧ Fr S w0 w F ∧ Below B w0 w ∧ w0.heap.size ≤ w.heap.size ∧ w.heap[tb]? = some (.cells #[.pointer (some ⟨top, 0, none⟩), .int .i64 (ps.length : Int)] 75 (0, 0)) ∧
    Kd.string.R 9 w n0 (fun _ => True) (.slice A path.length c) (path.map mkB)
/-- .. and the node there has a map. -/
def AddMap (S : Nat → Prop) (w w0 : World) (B K tb top n0 : Nat) (ps : List Pat) (path : List L) (A : Option Addr) (c k b m : Nat) : Prop :=
  ∃ F nd, F (path.take k) = some nd ∧ nd.blk = b ∧ nd.mv = some m ∧ Inv w B (K + k) top F ps ∧ Fr S w0 w F ∧ Below B w0 w ∧ w0.heap.size ≤ w.heap.size ∧ w.heap[tb]? = some (.cells #[.pointer (some ⟨top, 0, none⟩), .int .i64 (ps.length : Int)] 75 (0, 0)) ∧
    Kd.string.R 9 w n0 (fun _ => True) (.slice A path.length c) (path.map mkB)
/-- The node gets a map. -/
theorem AddAt.map {S : Nat → Prop} {w w0 : World} {B K tb top n0 : Nat} {ps : List Pat} {path : List L} {A : Option Addr} {c k b : Nat} (hB : B ≤ w0.heap.size) (h : AddAt S w w0 B K tb top n0 ps path A c k b) :
    ∃ r0 r1, ((∃ m, w.heap[b]? = some (.cells #[r0, r1, .map (some m)] 73 (0, 0)) ∧ AddMap S w w0 B K tb top n0 ps path A c k b m) ∨
      (w.heap[b]? = some (.cells #[r0, r1, .map none] 73 (0, 0)) ∧ b < w.heap.size ∧ AddMap S ((w.alloc (.map #[] 0)).setCell ⟨b, 2, none⟩ (.map (some w.heap.size))) w0 B K tb top n0 ps path A c k b w.heap.size)) := by
  obtain ⟨F, nd, hF, rfl, hI, hFr, hW, hsz, htb, hR⟩ := h
  have hb := (hI.node _ _ hF).blk
  have hlt := hI.lt_blk hF
  refine ⟨nd.row false, nd.row true, ?_⟩
  cases hm : nd.mv with
  | some m =>
    rw [hm] at hb
    exact .inl ⟨m, hb, F, nd, hF, rfl, hm, hI, hFr, hW, hsz, htb, hR⟩
  | none =>
    have hb' := hb
    rw [hm] at hb'
    have hBw : B ≤ w.heap.size := Nat.le_trans hB hsz
    have hbA : (w.alloc (.map #[] 0)).heap[nd.blk]? = some (.cells #[nd.row false, nd.row true, .map nd.mv] 73 (0, 0)) := (Below.heap_alloc _ _ _ hlt).trans hb
    have htne : tb ≠ nd.blk := fun e => by
      rw [e, hb] at htb
      injection htb with htb
      injection htb with _ h2
      exact absurd h2 (by decide)
    refine .inr ⟨hb', hlt, _, ⟨nd.blk, nd.row, some w.heap.size, .map []⟩, put_same .., rfl, rfl, hI.newmap hF hm hBw, ?_, (hW.alloc hBw _).setCell (hI.node _ _ hF).lo _, by simpa using Nat.le_succ_of_le hsz, ?_, Kd.R_set (Kd.R_below hR ((Below.refl _ _).alloc (Nat.le_refl _) _)) hbA (by decide) 2 _⟩
    · refine hFr.turn hsz (z := some nd.blk) (fun k e => hFr.foot k ⟨_, nd, hF, .inl (Option.some.inj e)⟩) (fun k hk hne => (Below.heap_setCell _ _ _ _ (by simpa using fun e => hne (by rw [e]))).trans (Below.heap_alloc _ _ _ hk)) (fun k hk => ?_)
      rcases foot_put hk with h | h | h | ⟨b, h⟩
      · exact .inl h
      · exact .inl ⟨_, nd, hF, .inl h⟩
      · exact .inr (by have := Option.some.inj h; omega)
      · exact .inl ⟨_, nd, hF, .inr (.inr ⟨b, h⟩)⟩
    · exact (Below.heap_setCell _ _ _ _ (by simpa using htne)).trans ((Below.heap_alloc _ _ _ (heap_lt htb)).trans htb)
theorem zeroN (w : World) : (zeroValue 70).run Tryd.prog w = .ok (.pointer none) w := by kernel_rfl
theorem keyS (s : L) (h : s.length ≤ 9223372036854775807) : keyOf Tryd.prog 9 (.string (mkB s)) = some (.string s) := Go.WideMaps.keyOf_string_mk Tryd.underlying9 (by simpa [maxLen, mkB_size] using h)
theorem strs_only {w w' : World} {z n0 : Nat} {v : Value} {xs : List ByteArray} (h : Kd.string.R 9 w n0 (fun _ => True) v xs) (hk : ∀ k, k < w.heap.size → k ≠ z → w'.heap[k]? = w.heap[k]?) (hz : ∀ cs, w.heap[z]? ≠ some (.cells cs 9 (0, 0))) : Kd.string.R 9 w' n0 (fun _ => True) v xs :=
  Kd.R_of_own (own_move (Kd.own_of_R h) (fun k hv => hk k (own_lt (Kd.own_of_R h) k hv) (fun e => by
    obtain ⟨cs, hc⟩ := own_typed (Kd.own_of_R h) k hv
    exact hz cs (e ▸ hc)))) (fun _ _ => trivial)
/-- A step down: there is a node; there is none, and one is made. -/
theorem AddMap.step {S : Nat → Prop} {w w0 : World} {B K tb top n0 : Nat} {ps : List Pat} {path : List L} {A : Option Addr} {c k b m : Nat} (hB : B ≤ w0.heap.size) (hk : k < path.length) (x : L) (hx : path.getD k [] = x) (hxl : x.length ≤ 9223372036854775807) (h : AddMap S w w0 B K tb top n0 ps path A c k b m) :
    ∃ (r0 r1 : Value) (D : DataW Unit) (y : Option Nat), w.heap[b]? = some (.cells #[r0, r1, .map (some m)] 73 (0, 0)) ∧
      (Instr.lookup 71 (.map (some m)) (.string (mkB x)) false).run Tryd.prog w = .ok (ptrV y) w ∧
      (w.alloc (.cells #[.slice none 0 0, .slice none 0 0, .map none] 73)).ownsMap Tryd.prog 9 ptrElem m (K + k) D ∧
      (∀ b', y = some b' → AddAt S w w0 B K tb top n0 ps path A c (k + 1) b') ∧
      (y = none → ∀ w', w'.ownsMap Tryd.prog 9 ptrElem m (K + k + 1) (D.put (.string x) (ptrD (some w.heap.size))) → (w.alloc (.cells #[.slice none 0 0, .slice none 0 0, .map none] 73)).grownBy w' (some m) → AddAt S w' w0 B K tb top n0 ps path A c (k + 1) w.heap.size) := by
  obtain ⟨F, nd, hF, rfl, hm, hI, hFr, hW, hsz, htb, hR⟩ := h
  have hn := hI.node _ _ hF
  have hb := hn.blk
  rw [hm] at hb
  obtain ⟨hmB, hown, hIs⟩ := hn.map m hm
  have hts : path.take (k + 1) = path.take k ++ [x] := by rw [take_snoc path [] k hk, hx]
  have hch := hI.child _ _ x hF
  obtain ⟨y, hy⟩ : ∃ y, (F (path.take k ++ [x])).map Nd.blk = y := ⟨_, rfl⟩
  rw [hy] at hch
  have hat : nd.D.atKey (.string x) .nil = ptrD y := by rw [← hch, childOf, hm]
  obtain ⟨v, pl, hrun, hv⟩ := hown.lookup strKey Tryd.underlying71 (zeroN w) (zd := .nil) (zp := []) rfl (keyS x hxl)
  rw [hat] at hv
  obtain rfl := ptrElem_inv hv
  refine ⟨_, _, nd.D, y, hb, hrun, hown.alloc _, fun b' hb' => ?_, fun hy0 w' ho hg => ?_⟩
  · subst hb'
    obtain ⟨nd', h1, h2⟩ := Option.map_eq_some_iff.1 hy
    exact ⟨F, nd', by rw [hts]; exact h1, h2, hI.mono (by omega), hFr, hW, hsz, htb, hR⟩
  · subst hy0
    have hBw : B ≤ w.heap.size := Nat.le_trans hB hsz
    have hI' := hI.newchild hF hm x (by rw [hch]; rfl) hBw ho hg
    have hmm := hn.map_ty m hm
    obtain ⟨es, cl, hme⟩ := hmm
    have hkk : ∀ k, k < w.heap.size → k ≠ m → w'.heap[k]? = w.heap[k]? := fun k hk hne =>
      (hg.block k (by simp; omega) (fun e => hne (Option.some.inj e))).trans (Below.heap_alloc _ _ _ hk)
    refine ⟨_, _, by rw [hts]; exact put_same .., rfl, hI', ?_, (hW.alloc hBw _).grown hg (by simp; omega) (fun z hz => by obtain rfl := Option.some.inj hz; exact hmB), Nat.le_trans hsz (Nat.le_trans (by simp) hg.size), ?_, strs_only hR hkk (fun cs e => by rw [hme] at e; injection e with e; cases e)⟩
    · refine hFr.turn hsz (z := some m) (fun k e => hFr.foot k ⟨_, nd, hF, .inr (.inl (hm.trans e))⟩) (fun k hk hne => hkk k hk (fun e => hne (by rw [e]))) (fun k hk => ?_)
      rcases foot_put hk with h | h | h | ⟨b, h⟩
      · rcases foot_put h with h | h | h | ⟨b, h⟩
        · exact .inl h
        · exact .inl ⟨_, nd, hF, .inl h⟩
        · exact .inl ⟨_, nd, hF, .inr (.inl (hm.trans h))⟩
        · exact .inl ⟨_, nd, hF, .inr (.inr ⟨b, h⟩)⟩
      · exact .inr (by have : w.heap.size = k := h; omega)
      · cases h
      · simp [Value.ownBlock] at h
    · exact (hkk tb (heap_lt htb) (fun e => by rw [e, hme] at htb; injection htb with htb; cases htb)).trans htb
/-- .. an int behind ints, and what it has written. -/
theorem app_intG {ops : Array Oper} {rest : List Oper} {o : Oper} {a : Act} {Q : Exit → Act → World → Prop} {w0 W : World} {base : Nat} {v : Value} {s x : Operand} (hgd : o.guard = none) (ho : o.op = .call { callee := .builtin .append, args := #[s, x], argTypes := #[37, 37] })
    (xs : List Int) (p : Int) (hs : a.eval s = v) (hx : a.eval x = .slice (some ⟨W.heap.size, 0, none⟩) 1 1) (HO : (Kd.int .i64).R 3 W base (fun _ => True) v xs) (HB : Below base w0 W) (hbase : base ≤ W.heap.size) (hl : (xs.length + 1) * 8 ≤ 140737488355328)
    (h : ∀ v1 w1, Kp ((Kd.int .i64).R 3 w1 base (fun _ => True) v1 (xs ++ [p])) → Kp (Below base w0 w1) → Kp (W.grownBy w1 v.ownBlock) → Kp (v1.ownBlock = v.ownBlock ∨ ∃ k, v1.ownBlock = some k ∧ W.heap.size ≤ k) → wpList Tryd.prog ops Q rest (a.put o.dst v1) w1) :
    wpList Tryd.prog ops Q (o :: rest) a (W.alloc (.cells #[.int .i64 p] 3)) :=
  Kd.R_append (w0 := w0) (Kd.int .i64) base hgd s x 37 3 (.int .i64 0) 8 ho Tryd.underlying37 (by kernel_rfl) rfl (by decide) (by decide) v xs p [.int .i64 p] (fun _ => True) (fun _ => False) hs hx rfl (fun _ h => h.elim) (fun _ _ => trivial) HO HB hbase (by omega)
    (fun v1 w1 h1 h2 h3 h4 => h v1 w1 ⟨h1⟩ ⟨h2⟩ ⟨h3⟩ ⟨h4⟩)
theorem addS_calls (S : Nat → Prop) (tb B K : Nat) (ps : List Pat) (s : ByteArray) (wild : Bool) (id : Int) (w : World) (hT : TrieS S w B K tb ps) (hE : EnvM w) (hB : B ≤ w.heap.size) (hs : s.size ≤ 10000) (hK : K ≤ 1000000000) (hn : ps.length ≤ 1000000) :
    Calls Tryd.prog 17 #[.pointer (some ⟨tb, 0, none⟩), .string s, .bool wild, .int .i64 id] w fun e w' => e = .returned (.tuple #[]) ∧ TrieS (fun k => S k ∨ w.heap.size ≤ k) w' B (K + (pathOf s.data.toList).length) tb (ps ++ [⟨pathOf s.data.toList, wild, id⟩]) ∧ Below B w w' ∧ ∀ k, k < w.heap.size → ¬ S k → w'.heap[k]? = w.heap[k]? := by
  obtain ⟨top, F, htb, htlo, hI, hSt, hSf⟩ := hT
  have HS := Kp.mk (StM.start hE)
  have HW := Kp.mk (way_calls s w hE (by omega))
  obtain ⟨path, hp⟩ : ∃ path, pathOf s.data.toList = path := ⟨_, rfl⟩
  rw [hp] at HW ⊢
  have hpl : path.length ≤ 10001 := by
    have h1 := labels_few s.data.toList
    have h2 : s.data.toList.length = s.size := data_length s
    rw [← hp, pathOf, List.length_reverse]
    omega
  have HXL : Kp (∀ k, k < path.length → (path.getD k []).length ≤ 10001) := ⟨fun k hk => by
    have h0 : ∀ y ∈ path, y ∈ labelsOf s.data.toList := by
      rw [← hp]
      intro y hy
      exact List.mem_reverse.1 hy
    have h1 := h0 _ (getD_mem path [] k hk)
    have h2 := mem_sz h1
    have h3 := labels_sz s.data.toList
    have h4 : s.data.toList.length = s.size := data_length s
    split at h3 <;> omega⟩
  obtain ⟨nd0, hF0, hb0⟩ := hI.root
  have HTB := Kp.mk htb
  have HI := Kp.mk hI
  have c0 := blk_cell htb 0
  have hmm := @run_makeMap Tryd.prog
  have qm : ∀ (w : World) (r : Option Nat), (binOp .eql 71 (.map r) (.map none)).run Tryd.prog w = .ok (.bool r.isNone) w := fun w r => run_eql_map_nil w _ _ _ r Tryd.underlying71
  have HA0 : Kp (AddAt S w w B K tb top w.heap.size ps [] none 0 0 top) := ⟨⟨F, nd0, hF0, hb0, hI, ⟨fun _ _ _ => rfl, fun k hk => .inl (hSf k hk)⟩, Below.refl _ _, Nat.le_refl _, htb, Kd.R_nil _ _ _ _ _⟩⟩
  have HF0 := Kp.mk hF0
  have HB0 := Kp.mk hb0
  have HSF := Kp.mk hSf
  have HST := Kp.mk hSt
  clear htb hI hE hp hF0 hb0 hSt hSf
  go_enter Tryd.func17, Tryd.ntmps17
  go_wp2_with (fail)
  refine gsM_ HW.out HS ?_
  intro A c w1 hc hcm HC HM HB1 HS1
  rw [List.length_map] at *
  have hRl : Kd.string.R 9 w1 w.heap.size (fun _ => True) (.slice A path.length c) (path.map mkB) := by
    obtain ⟨v, hv, hR⟩ := HM.out
    obtain rfl := List.singleton_inj.1 hv
    exact hR
  have HA1 : Kp (AddAt S w1 w B K tb top w.heap.size ps path A c 0 top) := ⟨⟨F, nd0, HF0.out, HB0.out, HI.out.below HB1.out, ⟨fun k hk _ => HB1.out.block k hk, fun k hk => .inl (HSF.out k hk)⟩, HB1.out.mono hB, HB1.out.size, (HB1.out.block _ (heap_lt HTB.out)).trans HTB.out, hRl⟩⟩
  clear hRl
  go_wp2_with (fail)
  go_loopw [8, 22] (fun x i wr => ∃ k b : Nat, k ≤ path.length ∧ i = .int .i64 k ∧ x = .pointer (some ⟨b, 0, none⟩) ∧ Kp (AddAt S wr w B K tb top w.heap.size ps path A c k b)) (fun _ i _ => path.length - (intOf i).toNat)
  case atStart => exact ⟨0, top, Nat.zero_le _, rfl, rfl, HA1⟩
  case round =>
    obtain ⟨k, b, hk, rfl, rfl, HA⟩ := hrel
    by_cases hlt : k < path.length
    · obtain ⟨x, hx⟩ : ∃ x, path.getD k [] = x := ⟨_, rfl⟩
      obtain ⟨ad, rfl, hcell⟩ : ∃ ad, A = some ad ∧ wr.cell? (ad.add k) = some (.string (mkB x)) := by
        obtain ⟨F', nd, -, -, -, -, -, -, -, hR⟩ := HA.out
        obtain ⟨ad, e, h⟩ := at_natS (R_C hR).1 k hlt
        refine ⟨ad, e, ?_⟩
        rw [h, ← hx]
        simp [List.getD_eq_getElem?_getD, hlt]
      have hxl : x.length ≤ 9223372036854775807 := by
        have := HXL.out k hlt
        rw [hx] at this
        omega
      have HX := Kp.mk hx
      obtain ⟨r0, r1, hcase⟩ := HA.out.map hB
      have HCASE := Kp.mk hcase
      obtain ⟨mv, hmv⟩ : ∃ mv, wr.heap[b]? = some (.cells #[r0, r1, .map mv] 73 (0, 0)) := by
        rcases hcase with ⟨m, h, -⟩ | ⟨h, -⟩
        · exact ⟨_, h⟩
        · exact ⟨_, h⟩
      have x2 := blk_cell hmv 2
      have y2 := blk_frozen hmv 2
      have HMV := Kp.mk hmv
      have hbl0 := heap_lt hmv
      clear hcase hmv hx
      go_upto_if 30 with (fail)
      go_cut [] (fun wx => ∃ m, Kp (AddMap S wx w B K tb top w.heap.size ps path (some ad) c k b m))
      case first =>
        cases mv with
        | some m =>
          go_wp2
          go_meet
          rcases HCASE.out with ⟨m', h, h2⟩ | ⟨h, -⟩
          · exact ⟨m', ⟨h2⟩⟩
          · rw [HMV.out] at h
            injection h with h
            injection h with h
            simp at h
        | none =>
          go_wp2
          go_meet
          rcases HCASE.out with ⟨m', h, h2⟩ | ⟨h, -, h2⟩
          · rw [HMV.out] at h
            injection h with h
            injection h with h
            simp at h
          · rw [World.setCell_alloc_past _ _ _ _ hbl0] at h2
            exact ⟨_, ⟨h2⟩⟩
      case rest =>
        obtain ⟨m, HM2⟩ := hcut
        clear x2 y2 HCASE HMV
        obtain ⟨r0, r1, D, y, hbk, hrun, hown, hyes, hno⟩ := HM2.out.step hB hlt x HX.out hxl
        have HY := Kp.mk hyes
        have HN := Kp.mk hno
        have HO := Kp.mk hown
        have x2 := blk_cell hbk 2
        have hbl := heap_lt hbk
        clear hbk hyes hno hown
        cases y with
        | some b' =>
          simp only [ptrV] at hrun
          go_wp2
          exact ⟨⟨k + 1, b', by omega, by go_num, rfl, ⟨HY.out b' rfl⟩⟩, by simp [intOf]; omega⟩
        | none =>
          have HN1 := Kp.mk (HN.out rfl)
          clear HN
          simp only [ptrV] at hrun
          go_wp2_with (at_mapUpdate; go_must (refine wpList_mapUpdate_own _ rfl _ _ _ 71 rfl 9 70 strKey Tryd.underlying71 ptrElem m (K + k) D rfl HO.out (by unfold maxLen; omega) _ _ (.string x) rfl rfl (keyS x hxl) (ptrD (some _)) [] rfl ?_))
          intro w2 ho2 hg2
          have HA2 := Kp.mk (HN1.out w2 ho2 hg2)
          clear ho2 hg2
          go_wp2
          exact ⟨⟨k + 1, _, by omega, by go_num, rfl, HA2⟩, by simp [intOf]; omega⟩
    · obtain rfl : k = path.length := by omega
      obtain ⟨F', nd, hF, rfl, hI, hFr, hW, hsz, htb, -⟩ := HA.out
      rw [List.take_length] at hF
      have hn1 := hI.node _ _ hF
      have hbt : nd.blk ≠ tb := fun e => by
        have h1 := hn1.blk
        rw [e, htb] at h1
        injection h1 with h1
        injection h1 with _ h2
        exact absurd h2 (by decide)
      have z1 := blk_cell htb 1
      have z2 := blk_frozen htb 1
      -- behind the count
      have htb2 := blk_put htb 1 (.int .i64 ((ps.length : Int) + 1)) (cs' := #[.pointer (some ⟨top, 0, none⟩), .int .i64 ((ps.length : Int) + 1)]) rfl
      have hI2 := hI.count htb (v := .int .i64 ((ps.length : Int) + 1)) 1
      have hn2 := hI2.node _ _ hF
      have HFR : Kp (Fr S w (wr.setCell ⟨tb, 1, none⟩ (.int .i64 ((ps.length : Int) + 1))) F') := ⟨hFr.turn hsz (z := some tb) (fun k e => .inl (by rw [← Option.some.inj e]; exact HST.out)) (fun k hk hne => Below.heap_setCell _ _ _ _ (by simpa using fun e => hne (by rw [e]))) (fun k hk => .inl hk)⟩
      have HSZ : Kp (w.heap.size ≤ (wr.setCell ⟨tb, 1, none⟩ (.int .i64 ((ps.length : Int) + 1))).heap.size) := ⟨by simpa using hsz⟩
      clear hFr
      have HI2 := Kp.mk hI2
      have HF := Kp.mk hF
      have HTB2 := Kp.mk htb2
      have HW2 := Kp.mk (hW.setCell (p := ⟨tb, 1, none⟩) htlo (.int .i64 ((ps.length : Int) + 1)))
      have hsz2 : B ≤ (wr.setCell ⟨tb, 1, none⟩ (.int .i64 ((ps.length : Int) + 1))).heap.size := by simp; omega
      have hbl := hI.lt_blk hF
      have q0 := blk_cell hn2.blk 0
      have q1 := blk_cell hn2.blk 1
      have p0 := blk_frozen hn2.blk 0
      have p1 := blk_frozen hn2.blk 1
      have hl0 := idsAt_len ps path wild
      have hl1 : ((idsAt ps path wild).length + 1) * 8 ≤ 140737488355328 := by omega
      have HR := Kp.mk (hn2.row wild)
      have HLO := Kp.mk hn2.lo
      have hpn : (ps.length : Int) ≤ 1000000 := by omega
      clear hF hI hW htb htb2 hI2 hn2 hn1
      have HBT := Kp.mk hbt
      clear hbt
      cases wild
      · go_wp2_with (at_builtin; with_reducible refine gate_builtin (b := .append) (xs := #[.tmp 72, .tmp 74]) rfl ?_; go_must (refine app_intG (w0 := w) (s := .tmp 72) (x := .tmp 74) (v := nd.row false) (base := B) rfl rfl (idsAt ps path false) id rfl (by simp [go_sem]) HR.out HW2.out hsz2 hl1 ?_))
        intro v1 w3 HR3 HB3 HG3 HV3
        obtain ⟨A1, c1, hv1⟩ := Kd.R_slice HR3.out
        obtain ⟨n1, hn1⟩ : ∃ n, (idsAt ps path false ++ [id]).length = n := ⟨_, rfl⟩
        rw [hn1] at hv1
        subst hv1
        clear hn1
        have hn2 := HI2.out.node _ _ HF.out
        have hb3 := (HG3.out.block _ (heap_lt hn2.blk) (fun e => HI2.out.blk_row HF.out HF.out false e.symm)).trans hn2.blk
        have w0' := blk_cell hb3 0
        have w1' := blk_frozen hb3 0
        have ht3 := (HG3.out.block _ (heap_lt HTB2.out) (fun e => by
          obtain ⟨cs, hc⟩ := hn2.row_ty false _ e.symm
          rw [HTB2.out] at hc
          injection hc with hc
          injection hc with _ h2
          exact absurd h2 (by decide))).trans HTB2.out
        have HP := Kp.mk (HI2.out.push HF.out false id _ hsz2 HR3.out HG3.out (by simpa using HV3.out))
        have HFQ : Kp (Fr S w (w3.setCell ⟨nd.blk, 0, none⟩ (.slice A1 n1 c1)) (put F' path ⟨nd.blk, fun c => if c = false then .slice A1 n1 c1 else nd.row c, nd.mv, nd.D⟩)) := ⟨by
          have h1 : Fr S w w3 F' := HFR.out.turn HSZ.out (fun k e => HFR.out.foot k ⟨_, nd, HF.out, .inr (.inr ⟨false, e⟩)⟩) (fun k hk hne => HG3.out.block k hk hne) (fun k hk => .inl hk)
          refine h1.turn (Nat.le_trans HSZ.out HG3.out.size) (z := some nd.blk) (fun k e => h1.foot k ⟨_, nd, HF.out, .inl (Option.some.inj e)⟩) (fun k hk hne => Below.heap_setCell _ _ _ _ (by simpa using fun e => hne (by rw [e]))) (fun k hk => ?_)
          rcases foot_put hk with h | h | h | ⟨b, h⟩
          · exact .inl h
          · exact .inl ⟨_, nd, HF.out, .inl h⟩
          · exact .inl ⟨_, nd, HF.out, .inr (.inl h)⟩
          · by_cases hb : b = false
            · simp only [if_pos hb] at h
              rcases HV3.out with hv | ⟨k', hk', hle⟩
              · exact .inl ⟨_, nd, HF.out, .inr (.inr ⟨false, hv ▸ h⟩)⟩
              · rw [hk'] at h
                obtain rfl := Option.some.inj h
                exact .inr (by have h1 := HSZ.out; simp at h1; omega)
            · simp only [if_neg hb] at h
              exact .inl ⟨_, nd, HF.out, .inr (.inr ⟨b, h⟩)⟩⟩
        have HT3 : Kp ((w3.setCell ⟨nd.blk, 0, none⟩ (.slice A1 n1 c1)).heap[tb]? = some (.cells #[.pointer (some ⟨top, 0, none⟩), .int .i64 ((ps.length : Int) + 1)] 75 (0, 0))) := ⟨blk_far ht3 (by simpa using HBT.out.symm) _⟩
        clear hb3 ht3 hn2
        go_wp2
        go_returns
        refine ⟨rfl, ⟨top, _, ?_, htlo, HP.out, .inl HST.out, HFQ.out.foot⟩, HB3.out.setCell HLO.out _, HFQ.out.keep⟩
        rw [List.length_append, List.length_singleton, Int.natCast_add]
        exact HT3.out
      · go_wp2_with (at_builtin; with_reducible refine gate_builtin (b := .append) (xs := #[.tmp 72, .tmp 74]) rfl ?_; go_must (refine app_intG (w0 := w) (s := .tmp 72) (x := .tmp 74) (v := nd.row true) (base := B) rfl rfl (idsAt ps path true) id rfl (by simp [go_sem]) HR.out HW2.out hsz2 hl1 ?_))
        intro v1 w3 HR3 HB3 HG3 HV3
        obtain ⟨A1, c1, hv1⟩ := Kd.R_slice HR3.out
        obtain ⟨n1, hn1⟩ : ∃ n, (idsAt ps path true ++ [id]).length = n := ⟨_, rfl⟩
        rw [hn1] at hv1
        subst hv1
        clear hn1
        have hn2 := HI2.out.node _ _ HF.out
        have hb3 := (HG3.out.block _ (heap_lt hn2.blk) (fun e => HI2.out.blk_row HF.out HF.out true e.symm)).trans hn2.blk
        have w0' := blk_cell hb3 1
        have w1' := blk_frozen hb3 1
        have ht3 := (HG3.out.block _ (heap_lt HTB2.out) (fun e => by
          obtain ⟨cs, hc⟩ := hn2.row_ty true _ e.symm
          rw [HTB2.out] at hc
          injection hc with hc
          injection hc with _ h2
          exact absurd h2 (by decide))).trans HTB2.out
        have HP := Kp.mk (HI2.out.push HF.out true id _ hsz2 HR3.out HG3.out (by simpa using HV3.out))
        have HFQ : Kp (Fr S w (w3.setCell ⟨nd.blk, 1, none⟩ (.slice A1 n1 c1)) (put F' path ⟨nd.blk, fun c => if c = true then .slice A1 n1 c1 else nd.row c, nd.mv, nd.D⟩)) := ⟨by
          have h1 : Fr S w w3 F' := HFR.out.turn HSZ.out (fun k e => HFR.out.foot k ⟨_, nd, HF.out, .inr (.inr ⟨true, e⟩)⟩) (fun k hk hne => HG3.out.block k hk hne) (fun k hk => .inl hk)
          refine h1.turn (Nat.le_trans HSZ.out HG3.out.size) (z := some nd.blk) (fun k e => h1.foot k ⟨_, nd, HF.out, .inl (Option.some.inj e)⟩) (fun k hk hne => Below.heap_setCell _ _ _ _ (by simpa using fun e => hne (by rw [e]))) (fun k hk => ?_)
          rcases foot_put hk with h | h | h | ⟨b, h⟩
          · exact .inl h
          · exact .inl ⟨_, nd, HF.out, .inl h⟩
          · exact .inl ⟨_, nd, HF.out, .inr (.inl h)⟩
          · by_cases hb : b = true
            · simp only [if_pos hb] at h
              rcases HV3.out with hv | ⟨k', hk', hle⟩
              · exact .inl ⟨_, nd, HF.out, .inr (.inr ⟨true, hv ▸ h⟩)⟩
              · rw [hk'] at h
                obtain rfl := Option.some.inj h
                exact .inr (by have h1 := HSZ.out; simp at h1; omega)
            · simp only [if_neg hb] at h
              exact .inl ⟨_, nd, HF.out, .inr (.inr ⟨b, h⟩)⟩⟩
        have HT3 : Kp ((w3.setCell ⟨nd.blk, 1, none⟩ (.slice A1 n1 c1)).heap[tb]? = some (.cells #[.pointer (some ⟨top, 0, none⟩), .int .i64 ((ps.length : Int) + 1)] 75 (0, 0))) := ⟨blk_far ht3 (by simpa using HBT.out.symm) _⟩
        clear hb3 ht3 hn2
        go_wp2
        go_returns
        refine ⟨rfl, ⟨top, _, ?_, htlo, HP.out, .inl HST.out, HFQ.out.foot⟩, HB3.out.setCell HLO.out _, HFQ.out.keep⟩
        rw [List.length_append, List.length_singleton, Int.natCast_add]
        exact HT3.out
theorem add_calls (tb B K : Nat) (ps : List Pat) (s : ByteArray) (wild : Bool) (id : Int) (w : World) (hT : TrieAt w B K tb ps) (hE : EnvM w) (hB : B ≤ w.heap.size) (hs : s.size ≤ 10000) (hK : K ≤ 1000000000) (hn : ps.length ≤ 1000000) :
    Calls Tryd.prog 17 #[.pointer (some ⟨tb, 0, none⟩), .string s, .bool wild, .int .i64 id] w fun e w' => e = .returned (.tuple #[]) ∧ TrieAt w' B (K + (pathOf s.data.toList).length) tb (ps ++ [⟨pathOf s.data.toList, wild, id⟩]) ∧ Below B w w' :=
  (addS_calls _ tb B K ps s wild id w (TrieS.of hT) hE hB hs hK hn).mono fun _ _ ⟨h1, h2, h3, _⟩ => ⟨h1, h2.at_, h3⟩
end Go.Proofs.YtimaliamidgflaaDoor

namespace Go.Proofs.YtimaliamidgflaaDoor
open Go.RowKit Go.Proofs.YtimaliamidgflaaDoorW.PrintWords Go.Maps
set_option linter.unusedVariables false
set_option linter.unusedSimpArgs false
set_option maxRecDepth 100000
set_option maxHeartbeats 1000000

/-- What stands for a name, out of patterns in the order in which they were added. -/
def wildsF (ps : List Pat) (path : List L) (k : Nat) : List (List Int) := (List.range k).map fun j => idsAt ps (path.take j) true
def matchF (ps : List Pat) (path : List L) : List Int := idsAt ps path false ++ (wildsF ps path path.length).reverse.flatten
/-- Slices in a row, and what they lead to. -/
def RawOf (w : World) (raws : List (Option Addr × Nat × Nat)) (xss : List (List Int)) : Prop :=
  raws.length = xss.length ∧ ∀ (j : Nat) r x, raws[j]? = some r → xss[j]? = some x → r.2.1 = x.length ∧ x.length ≤ r.2.2 ∧ (Kd.int .i64).C w r.1 x.length x
theorem RawOf.below {w w' : World} {raws : List (Option Addr × Nat × Nat)} {xss : List (List Int)} (h : RawOf w raws xss) (hb : Below w.heap.size w w') : RawOf w' raws xss :=
  ⟨h.1, fun j r x h1 h2 => ⟨(h.2 j r x h1 h2).1, (h.2 j r x h1 h2).2.1, Kd.C_below (h.2 j r x h1 h2).2.2 hb⟩⟩
theorem RawOf.snoc {w : World} {raws : List (Option Addr × Nat × Nat)} {xss : List (List Int)} (h : RawOf w raws xss) {A : Option Addr} {c : Nat} {x : List Int} (hc : x.length ≤ c) (hC : (Kd.int .i64).C w A x.length x) : RawOf w (raws ++ [(A, x.length, c)]) (xss ++ [x]) := by
  obtain ⟨hl, hr⟩ := h
  refine ⟨by simp [hl], fun j r y h1 h2 => ?_⟩
  by_cases hj : j < raws.length
  · rw [List.getElem?_append_left hj] at h1
    rw [List.getElem?_append_left (by omega)] at h2
    exact hr j r y h1 h2
  · have hj2 : j = raws.length := by
      have := (List.getElem?_eq_some_iff.1 h1).1
      simp at this
      omega
    subst hj2
    rw [List.getElem?_append_right (Nat.le_refl _), Nat.sub_self] at h1
    rw [hl, List.getElem?_append_right (Nat.le_refl _), Nat.sub_self] at h2
    obtain rfl := Option.some.inj h1
    obtain rfl := Option.some.inj h2
    exact ⟨rfl, hc, hC⟩
theorem RawOf.reverse {w : World} {raws : List (Option Addr × Nat × Nat)} {xss : List (List Int)} (h : RawOf w raws xss) : RawOf w raws.reverse xss.reverse := by
  obtain ⟨hl, hr⟩ := h
  refine ⟨by simp [hl], fun j r y h1 h2 => ?_⟩
  have hj : j < raws.length := by
    have := (List.getElem?_eq_some_iff.1 h1).1
    simpa using this
  rw [List.getElem?_reverse hj] at h1
  rw [List.getElem?_reverse (by omega)] at h2
  exact hr _ r y h1 (by rw [hl]; exact h2)
theorem RawOf.C {w : World} {raws : List (Option Addr × Nat × Nat)} {xss : List (List Int)} (h : RawOf w raws xss) {A : Option Addr} {n : Nat} (hC : rawK.C w A n raws) : (Kd.slice 3 (Kd.int .i64)).C w A n xss := by
  obtain ⟨hl, hr⟩ := h
  obtain ⟨h1, h2, h3⟩ := hC
  refine ⟨by omega, h2, fun hn => ?_⟩
  obtain ⟨ad, e, h4⟩ := h3 hn
  refine ⟨ad, e, fun j x hx => ?_⟩
  have hj : j < raws.length := by
    have := (List.getElem?_eq_some_iff.1 hx).1
    omega
  obtain ⟨c, hc1, hc2, hc3⟩ := h4 j _ (List.getElem?_eq_getElem hj)
  obtain ⟨e1, e2, e3⟩ := hr j _ x (List.getElem?_eq_getElem hj) hx
  refine ⟨c, hc1, ⟨(raws[j]).1, (raws[j]).2.2, ?_, e2, e3⟩, hc3⟩
  rw [← e1]
  exact hc2
theorem look_none (w : World) (key : Value) (s : L) (h : keyOf Tryd.prog 9 key = some (.string s)) : (Instr.lookup 71 (.map none) key false).run Tryd.prog w = .ok (.pointer none) w :=
  Maps.look_nil (w := w) false strKey Tryd.underlying71 (zeroN w) h
/-- Where Match stands. -/
def MatchAt (w : World) (F : List L → Option Nd) (p : List L) (b : Nat) : Prop :=
  (∃ nd, F p = some nd ∧ nd.blk = b) ∨ (F p = none ∧ w.heap[b]? = some (.cells #[.slice none 0 0, .slice none 0 0, .map none] 73 (0, 0)))
theorem MatchAt.below {w w' : World} {F : List L → Option Nd} {p : List L} {b : Nat} (h : MatchAt w F p b) (hb : Below w.heap.size w w') : MatchAt w' F p b := by
  rcases h with h | ⟨h1, h2⟩
  · exact .inl h
  · exact .inr ⟨h1, (hb.block _ (heap_lt h2)).trans h2⟩
theorem MatchAt.open_ {w : World} {B K top : Nat} {F : List L → Option Nd} {ps : List Pat} {p : List L} {b : Nat} (h : MatchAt w F p b) (hI : Inv w B K top F ps) :
    ∃ A0 c0 A1 c1 mv, w.heap[b]? = some (.cells #[.slice A0 (idsAt ps p false).length c0, .slice A1 (idsAt ps p true).length c1, .map mv] 73 (0, 0)) ∧
      (∀ W K', Inv W B K' top F ps → (Kd.int .i64).C W A0 (idsAt ps p false).length (idsAt ps p false) ∧ (Kd.int .i64).C W A1 (idsAt ps p true).length (idsAt ps p true)) ∧ (idsAt ps p true).length ≤ c1 ∧
      ∀ x : L, x.length ≤ 9223372036854775807 → ∃ y : Option Nat, (Instr.lookup 71 (.map mv) (.string (mkB x)) false).run Tryd.prog w = .ok (ptrV y) w ∧ (∀ b', y = some b' → MatchAt w F (p ++ [x]) b') ∧ (y = none → F (p ++ [x]) = none) := by
  rcases h with ⟨nd, hF, rfl⟩ | ⟨hF, hb⟩
  · have hn := hI.node p nd hF
    obtain ⟨A0, c0, e0⟩ := Kd.R_slice (hn.row false)
    obtain ⟨A1, c1, e1⟩ := Kd.R_slice (hn.row true)
    have r0 := hn.row false
    have r1 := hn.row true
    have hb := hn.blk
    rw [e0] at r0 hb
    rw [e1] at r1 hb
    refine ⟨A0, c0, A1, c1, nd.mv, hb, fun W K' hW => ?_, (R_C r1).2, fun x hx => ?_⟩
    · have s0 := (hW.node p nd hF).row false
      have s1 := (hW.node p nd hF).row true
      rw [e0] at s0
      rw [e1] at s1
      exact ⟨(R_C s0).1, (R_C s1).1⟩
    have hch := hI.child p nd x hF
    obtain ⟨y, hy⟩ : ∃ y, (F (p ++ [x])).map Nd.blk = y := ⟨_, rfl⟩
    rw [hy] at hch
    refine ⟨y, ?_, fun b' hb' => ?_, fun h0 => ?_⟩
    · cases hm : nd.mv with
      | none =>
        rw [childOf, hm] at hch
        obtain rfl : none = y := ptrD_inj hch
        exact look_none w _ x (keyS x hx)
      | some m =>
        obtain ⟨-, hown, -⟩ := hn.map m hm
        have hat : nd.D.atKey (.string x) .nil = ptrD y := by rw [← hch, childOf, hm]
        obtain ⟨v, pl, hrun, hv⟩ := hown.lookup strKey Tryd.underlying71 (zeroN w) (zd := .nil) (zp := []) rfl (keyS x hx)
        rw [hat] at hv
        obtain rfl := ptrElem_inv hv
        exact hrun
    · subst hb'
      obtain ⟨nd', h1, h2⟩ := Option.map_eq_some_iff.1 hy
      exact .inl ⟨nd', h1, h2⟩
    · subst h0
      simpa using hy
  · have hno : ∀ b, idsAt ps p b = [] := fun b => idsAt_none ps p b (fun x hx e => by have := hI.pats x hx; rw [e, hF] at this; cases this)
    refine ⟨none, 0, none, 0, none, by rw [hno, hno]; exact hb, fun W K' hW => by rw [hno, hno]; exact ⟨⟨rfl, by simp, fun h => by simp at h⟩, ⟨rfl, by simp, fun h => by simp at h⟩⟩, by rw [hno]; exact Nat.le_refl _, fun x hx => ⟨none, look_none w _ x (keyS x hx), (fun b' hb' => by cases hb'), fun _ => ?_⟩⟩
    cases h2 : F (p ++ [x]) with
    | none => rfl
    | some y =>
      have := hI.up p x (by rw [h2]; rfl)
      rw [hF] at this
      cases this
theorem MatchAt.grown {w w' : World} {F : List L → Option Nd} {p : List L} {b base : Nat} {v : Value} {raws : List (Option Addr × Nat × Nat)} (h : MatchAt w F p b) (hR : rawK.R 37 w base (fun _ => True) v raws) (hg : w.grownBy w' v.ownBlock) : MatchAt w' F p b := by
  rcases h with h | ⟨h1, h2⟩
  · exact .inl h
  · refine .inr ⟨h1, (hg.block _ (heap_lt h2) (fun e => ?_)).trans h2⟩
    obtain ⟨cs, hc⟩ := own_typed (Kd.own_of_R hR) b e.symm
    rw [h2] at hc
    injection hc with hc
    injection hc with _ h3
    exact absurd h3 (by decide)
theorem app_raw {ops : Array Oper} {rest : List Oper} {o : Oper} {a : Act} {Q : Exit → Act → World → Prop} {w0 W : World} {base : Nat} {v : Value} {s x : Operand} (hgd : o.guard = none) (ho : o.op = .call { callee := .builtin .append, args := #[s, x], argTypes := #[78, 78] })
    (xs : List (Option Addr × Nat × Nat)) (A : Option Addr) (n c : Nat) (hs : a.eval s = v) (hx : a.eval x = .slice (some ⟨W.heap.size, 0, none⟩) 1 1) (HO : rawK.R 37 W base (fun _ => True) v xs) (HB : Below base w0 W) (hbase : base ≤ W.heap.size) (hl : (xs.length + 1) * 24 ≤ 140737488355328)
    (h : ∀ v1 w1, Kp (rawK.R 37 w1 base (fun _ => True) v1 (xs ++ [(A, n, c)])) → Kp (Below base w0 w1) → Kp (W.grownBy w1 v.ownBlock) → wpList Tryd.prog ops Q rest (a.put o.dst v1) w1) :
    wpList Tryd.prog ops Q (o :: rest) a (W.alloc (.cells #[.slice A n c] 37)) :=
  Kd.R_append (w0 := w0) rawK base hgd s x 78 37 (.slice none 0 0) 24 ho Tryd.underlying78 (by kernel_rfl) rfl (by decide) (by decide) v xs (A, n, c) [.slice A n c] (fun _ => True) (fun _ => False) hs hx rfl (fun _ h => h.elim) (fun _ _ => trivial) HO HB hbase (by omega)
    (fun v1 w1 h1 h2 h3 _ => h v1 w1 ⟨h1⟩ ⟨h2⟩ ⟨h3⟩)
theorem wilds_len (ps : List Pat) (path : List L) (k : Nat) : (wildsF ps path k).length = k := by simp [wildsF]
theorem wilds_succ (ps : List Pat) (path : List L) (k : Nat) : wildsF ps path (k + 1) = wildsF ps path k ++ [idsAt ps (path.take k) true] := by simp [wildsF, List.range_succ]
theorem flat_le (ls : List (List Int)) (n : Nat) (h : ∀ x ∈ ls, x.length ≤ n) : ls.flatten.length ≤ ls.length * n := by
  induction ls with
  | nil => simp
  | cons x ls ih =>
    have h1 := h x (by simp)
    have h2 := ih (fun y hy => h y (by simp [hy]))
    simp only [List.flatten_cons, List.length_append, List.length_cons, Nat.succ_mul]
    omega
theorem wilds_flat (ps : List Pat) (path : List L) (k : Nat) : ((wildsF ps path k).reverse.flatten).length ≤ k * ps.length := by
  have h := flat_le (wildsF ps path k).reverse ps.length (fun x hx => by
    rw [List.mem_reverse, wildsF] at hx
    obtain ⟨j, -, rfl⟩ := List.mem_map.1 hx
    exact idsAt_len ..)
  rw [List.length_reverse, wilds_len] at h
  exact h
theorem reverseR_none (A : Option Addr) (c : Nat) (w : World) : Calls Tryd.prog 39 #[.slice A 0 c] w fun e w' => e = .returned (.tuple #[]) ∧ w = w' := by
  go_enter Tryd.func39, Tryd.ntmps39
  go_wp2_with (fail)
  refine wp_loop_rounds 1 ?_
  rw [rounds_succ]
  go_wp2
  go_returns
  exact ⟨rfl, rfl⟩
theorem match_calls (tb B K : Nat) (ps : List Pat) (s : ByteArray) (w : World) (hT : TrieAt w B K tb ps) (hE : EnvM w) (hs : s.size ≤ 10000) (hn : ps.length ≤ 1000000) :
    Calls Tryd.prog 19 #[.pointer (some ⟨tb, 0, none⟩), .string s] w (Gives intsK (matchF ps (pathOf s.data.toList)) w) := by
  obtain ⟨top, F, htb, htlo, hI⟩ := hT
  have HS := Kp.mk (StM.start hE)
  have HW := Kp.mk (way_calls s w hE (by omega))
  obtain ⟨path, hp⟩ : ∃ path, pathOf s.data.toList = path := ⟨_, rfl⟩
  rw [hp] at HW ⊢
  have hpl : path.length ≤ 10001 := by
    have h1 := labels_few s.data.toList
    have h2 : s.data.toList.length = s.size := data_length s
    rw [← hp, pathOf, List.length_reverse]
    omega
  have HXL : Kp (∀ k, k < path.length → (path.getD k []).length ≤ 10001) := ⟨fun k hk => by
    have h0 : ∀ y ∈ path, y ∈ labelsOf s.data.toList := by
      rw [← hp]
      intro y hy
      exact List.mem_reverse.1 hy
    have h1 := h0 _ (getD_mem path [] k hk)
    have h2 := mem_sz h1
    have h3 := labels_sz s.data.toList
    have h4 : s.data.toList.length = s.size := data_length s
    split at h3 <;> omega⟩
  obtain ⟨nd0, hF0, hb0⟩ := hI.root
  have HTB := Kp.mk htb
  have HI := Kp.mk hI
  have HF0 := Kp.mk hF0
  have HB0 := Kp.mk hb0
  clear htb hI hE hp hF0 hb0
  go_enter Tryd.func19, Tryd.ntmps19
  go_wp2_with (fail)
  refine gsM_ HW.out HS ?_
  intro A c w1 hc hcm HC HM HB1 HS1
  rw [List.length_map] at *
  have c0 := blk_cell ((HB1.out.block _ (heap_lt HTB.out)).trans HTB.out) 0
  go_wp2_with (fail)
  have hsz1 := HS1.out.size
  have HI1 := Kp.mk (HI.out.below HS1.out.below)
  go_loopw [6, 7, 21] (fun v x i wr => ∃ (k b : Nat) (raws : List (Option Addr × Nat × Nat)), k ≤ path.length ∧ i = .int .i64 k ∧ x = .pointer (some ⟨b, 0, none⟩) ∧ Kp (Below w1.heap.size w1 wr) ∧ Kp (rawK.R 37 wr w1.heap.size (fun _ => True) v raws) ∧ Kp (RawOf w1 raws (wildsF ps path k)) ∧ Kp (MatchAt wr F (path.take k) b)) (fun _ _ i _ => path.length - (intOf i).toNat)
  case atStart => exact ⟨0, top, [], Nat.zero_le _, rfl, rfl, ⟨Below.refl _ _⟩, ⟨Kd.R_nil _ _ _ _ _⟩, ⟨⟨rfl, fun j r x h => by cases h⟩⟩, ⟨.inl ⟨nd0, HF0.out, HB0.out⟩⟩⟩
  case round =>
    obtain ⟨k, b, raws, hk, rfl, rfl, HWr, HR, HRW, HMA⟩ := hrel
    have HIr := Kp.mk (HI.out.below (HS1.out.step HWr.out).below)
    have hrl : raws.length = k := by rw [HRW.out.1, wilds_len]
    obtain ⟨A0, c00, A1, c11, mv, hbk, hCC, hc11, hlook⟩ := HMA.out.open_ HIr.out
    by_cases hlt : k < path.length
    · obtain ⟨x, hx⟩ : ∃ x, path.getD k [] = x := ⟨_, rfl⟩
      obtain ⟨ad, rfl, hcell⟩ : ∃ ad, A = some ad ∧ wr.cell? (ad.add k) = some (.string (mkB x)) := by
        obtain ⟨ad, e, h⟩ := at_natS (Kd.C_below HC.out HWr.out) k hlt
        refine ⟨ad, e, ?_⟩
        rw [h, ← hx]
        simp [List.getD_eq_getElem?_getD, hlt]
      have hxl : x.length ≤ 9223372036854775807 := by
        have := HXL.out k hlt
        rw [hx] at this
        omega
      have hts : path.take (k + 1) = path.take k ++ [x] := by rw [take_snoc path [] k hlt, hx]
      have HTS := Kp.mk hts
      have b1 := blk_cell hbk 1
      have hR1' := HRW.out.snoc hc11 (hCC w1 K HI1.out).2
      rw [← wilds_succ] at hR1'
      obtain ⟨n1, hn1⟩ : ∃ n1, (idsAt ps (path.take k) true).length = n1 := ⟨_, rfl⟩
      rw [hn1] at b1 hR1'
      have HRW1 := Kp.mk hR1'
      have hrl24 : (raws.length + 1) * 24 ≤ 140737488355328 := by omega
      have hszr := HWr.out.size
      clear hlook hts hbk hCC hx hn1 hc11 hrl hR1'
      go_wp2_with (at_builtin; with_reducible refine gate_builtin (b := .append) (xs := #[.tmp 25, .tmp 30]) rfl ?_; go_must (refine app_raw (w0 := w1) (s := .tmp 25) (x := .tmp 30) (v := u6) (base := w1.heap.size) rfl rfl raws A1 n1 c11 rfl rfl HR.out HWr.out hszr hrl24 ?_))
      intro v1 wa HR1 HB1a HG1
      have HMa := Kp.mk (HMA.out.grown HR.out HG1.out)
      have HIa := Kp.mk (HI.out.below (HS1.out.step HB1a.out).below)
      obtain ⟨A0', c0', A1', c1', mv', hbk', -, -, hlook'⟩ := HMa.out.open_ HIa.out
      obtain ⟨y, hrun, hyes, hno⟩ := hlook' x hxl
      have HYES := Kp.mk hyes
      have HNO := Kp.mk hno
      have b2 := blk_cell hbk' 2
      have hsza := HB1a.out.size
      clear b1 hbk' hlook' hyes hno HMA HMa
      cases y with
      | some b' =>
        have HM1 := Kp.mk (HYES.out b' rfl)
        clear HYES HNO
        simp only [ptrV] at hrun
        go_wp2
        exact ⟨⟨k + 1, b', _, by omega, by go_num, rfl, HB1a, HR1, HRW1, ⟨by rw [HTS.out]; exact HM1.out⟩⟩, by simp [intOf]; omega⟩
      | none =>
        have HN1 := Kp.mk (HNO.out rfl)
        clear HYES HNO
        simp only [ptrV] at hrun
        go_wp2
        have hba : Below wa.heap.size wa (wa.alloc (.cells #[.slice none 0 0, .slice none 0 0, .map none] 73)) := (Below.refl _ _).alloc (Nat.le_refl _) _
        exact ⟨⟨k + 1, _, _, by omega, by go_num, rfl, ⟨below_step HB1a.out hba⟩, ⟨Kd.R_below HR1.out hba⟩, HRW1, ⟨.inr ⟨by rw [HTS.out]; exact HN1.out, heap_new _ _⟩⟩⟩, by simp [intOf]; omega⟩
    · obtain rfl : k = path.length := by omega
      rw [List.take_length] at hbk hCC HMA
      have b0 := blk_cell hbk 0
      have hC0 := (hCC wr K HIr.out).1
      have HC0 := Kp.mk hC0
      have hi0 := idsAt_len ps path false
      have hwf := wilds_flat ps path path.length
      have hmf : matchF ps path = idsAt ps path false ++ (wildsF ps path path.length).reverse.flatten := rfl
      obtain ⟨ids, hids⟩ : ∃ ids, idsAt ps path false = ids := ⟨_, rfl⟩
      obtain ⟨wls, hwls⟩ : ∃ wls, wildsF ps path path.length = wls := ⟨_, rfl⟩
      have hwl := wilds_len ps path path.length
      rw [hids] at HC0 b0 hi0 hmf
      rw [hwls] at HRW hwf hwl hmf
      have HMF := Kp.mk hmf
      have hmul : path.length * ps.length ≤ 10001 * 1000000 := Nat.mul_le_mul hpl hn
      have hfl : wls.reverse.flatten.length ≤ 10001000000 := by omega
      have HFL := Kp.mk hfl
      have HSr := Kp.mk (HS1.out.step HWr.out)
      clear hlook hbk hCC hc11 hids hwls hwf hmul hmf hC0 hfl
      go_wp2_with (fail)
      refine gsM_ (cloneI_calls A0 ids.length c00 ids _ HC0.out (by omega)) HSr ?_
      intro A2 c2 w2 hc2 hcm2 HC2 HM2 HB2 HS2
      have HR2 := Kp.mk (Kd.R_below HR.out HB2.out)
      obtain ⟨v2, hv2, hRo⟩ := HM2.out
      obtain rfl := List.singleton_inj.1 hv2
      have HRO := Kp.mk hRo
      obtain ⟨Aw, cw, rfl⟩ := Kd.R_slice HR.out
      clear hRo hv2
      have hbr : Below wr.heap.size wr w2 := HB2.out
      have HBR := Kp.mk hbr
      clear hbr
      go_wp2_with (fail)
      by_cases h0 : path.length = 0
      · obtain rfl : path = [] := List.eq_nil_of_length_eq_zero h0
        obtain rfl : raws = [] := List.eq_nil_of_length_eq_zero (hrl.trans rfl)
        obtain rfl : wls = [] := List.eq_nil_of_length_eq_zero (hwl.trans rfl)
        clear hrl hwl h0
        refine q_ (reverseR_none Aw cw _) ?_
        go_wp2_with (fail)
        refine gsM_ (concatI_calls Aw cw ([] : List (List Int)).reverse _ ⟨rfl, by simp, fun h => by simp at h⟩ (by simp)) HS2 ?_
        intro A4 c4 w4 hc4 hcm4 HC4 HM4 HB4 HS4
        have HRO4 := Kp.mk (Kd.R_below HRO.out HB4.out)
        have HBb := Kp.mk (below_step HBR.out HB4.out)
        go_wp2_with (at_builtin; with_reducible refine gate_builtin (b := .append) (xs := #[.tmp 50, .tmp 52]) rfl ?_; go_must (refine app_ints (w0 := wr) (s := .tmp 50) (x := .tmp 52) (v := .slice A2 ids.length c2) (base := wr.heap.size) rfl rfl ids ([] : List (List Int)).reverse.flatten A4 ([] : List (List Int)).reverse.flatten.length c4 rfl (by simp [go_sem]) HRO4.out HC4.out HBb.out HBb.out.size (by have := HFL.out; omega) ?_))
        intro v5 w5 HR5 HB5 hs5
        go_wp2
        go_ret
        exact ⟨_, rfl, ⟨_, rfl, by rw [HMF.out]; simpa using Kd.R_lower HR5.out HSr.out.size⟩, below_step HSr.out.below HB5.out⟩
      · obtain ⟨g, rfl, hg, -⟩ := R_form HR.out (by omega)
        have hrev := reverseR_calls g cw raws w2 _ HR2.out
        rw [hrl] at hrev
        refine hrev.mono ?_
        rintro e3 w3 ⟨rfl, hR3, hg3⟩
        have hl3 : g < w2.heap.size := by
          obtain ⟨cs, hcs⟩ := own_typed (Kd.own_of_R HR2.out) g rfl
          exact heap_lt hcs
        have hB13 : Below w1.heap.size w2 w3 := (Below.refl w1.heap.size w2).grown hg3 (by have := HBR.out.size; have := HWr.out.size; omega) (fun z hz => by obtain rfl := Option.some.inj hz; exact hg)
        have hBw : Below w.heap.size w w3 := HS2.out.below.trans (hB13.mono HS1.out.size)
        have HS3 := Kp.mk (StM.mk hBw (HS.out.env.below hBw))
        have hgr : g < wr.heap.size := by
          obtain ⟨cs, hcs⟩ := own_typed (Kd.own_of_R HR.out) g rfl
          exact heap_lt hcs
        have HRO3 : Kp ((Kd.int .i64).R 3 w3 wr.heap.size (fun _ => True) (.slice A2 ids.length c2) ids) := ⟨Kd.R_of_own (own_move (Kd.own_of_R HRO.out) (fun k hk => hg3.block k (own_lt (Kd.own_of_R HRO.out) k hk) (fun e => by
          obtain rfl := Option.some.inj e
          have := own_base (Kd.own_of_R HRO.out) k hk
          omega))) (fun _ _ => trivial)⟩
        have hraw := (HRW.out.reverse.below ((below_step HWr.out HB2.out).trans hB13)).C (R_C hR3).1
        have hcc := concatI_calls (some ⟨g, 0, none⟩) cw wls.reverse w3 (by rw [List.length_reverse, hwl]; exact hraw) (by have := HFL.out; omega)
        rw [List.length_reverse, hwl] at hcc
        have HCC := Kp.mk hcc
        have HR3 := Kp.mk hR3
        clear hcc hraw hBw hrev hR3
        have hszb : wr.heap.size ≤ w3.heap.size := Nat.le_trans HBR.out.size hg3.size
        have HG3 := Kp.mk hg3
        have HB13 := Kp.mk hB13
        clear hg3 hB13
        go_wp2_with (fail)
        refine gsM_ HCC.out HS3 ?_
        intro A4 c4 w4 hc4 hcm4 HC4 HM4 HB4 HS4
        have HRO4 := Kp.mk (Kd.R_below HRO3.out HB4.out)
        have hs4 : wr.heap.size ≤ w4.heap.size := Nat.le_trans hszb HB4.out.size
        go_wp2_with (at_builtin; with_reducible refine gate_builtin (b := .append) (xs := #[.tmp 50, .tmp 52]) rfl ?_; go_must (refine app_ints (w0 := w4) (s := .tmp 50) (x := .tmp 52) (v := .slice A2 ids.length c2) (base := wr.heap.size) rfl rfl ids wls.reverse.flatten A4 wls.reverse.flatten.length c4 rfl (by simp [go_sem]) HRO4.out HC4.out (Below.refl _ _) hs4 (by have := HFL.out; omega) ?_))
        intro v5 w5 HR5 HB5 hs5
        go_wp2
        go_ret
        exact ⟨_, rfl, ⟨_, rfl, by rw [HMF.out]; exact Kd.R_lower HR5.out HSr.out.size⟩, HS4.out.below.trans (HB5.out.mono HSr.out.size)⟩
end Go.Proofs.YtimaliamidgflaaDoor

namespace Go.Proofs.YtimaliamidgflaaDoor
open Go.RowKit Go.Proofs.YtimaliamidgflaaDoorW.PrintWords Go.Maps
set_option linter.unusedVariables false
set_option linter.unusedSimpArgs false
set_option maxRecDepth 100000
set_option maxHeartbeats 1000000

theorem inv_new (w : World) (B N : Nat) (hB : B ≤ N) (hb : w.heap[N]? = some (.cells #[.slice none 0 0, .slice none 0 0, .map none] 73 (0, 0))) :
    Inv w B 0 N (fun p => if p = [] then some ⟨N, fun _ => .slice none 0 0, none, .map []⟩ else none) [] := by
  have key : ∀ p nd, (if p = [] then some (⟨N, fun _ => .slice none 0 0, none, .map []⟩ : Nd) else none) = some nd → p = ([] : List L) ∧ nd = ⟨N, fun _ => .slice none 0 0, none, .map []⟩ := by
    intro p nd h
    split at h
    · rename_i e
      exact ⟨e, (Option.some.inj h).symm⟩
    · cases h
  constructor
  · intro p nd h
    obtain ⟨rfl, rfl⟩ := key p nd h
    exact ⟨hb, hB, fun b => Kd.R_nil _ _ _ _ _, fun m hm => by cases hm⟩
  · intro p q a b hp hq _
    rw [(key p a hp).1, (key q b hq).1]
  · intro p q a b m hp hq _ _
    rw [(key p a hp).1, (key q b hq).1]
  · intro p q a b x y k hp hq ha _
    obtain ⟨-, rfl⟩ := key p a hp
    simp [Value.ownBlock] at ha
  · intro p nd s h
    obtain ⟨rfl, rfl⟩ := key p nd h
    simp [childOf, ptrD]
  · exact ⟨_, if_pos rfl, rfl⟩
  · intro x hx
    cases hx
  · intro p s h
    simp at h
theorem new_calls (w : World) : Calls Tryd.prog 14 #[] w fun e w' => ∃ tb, e = .returned (.pointer (some ⟨tb, 0, none⟩)) ∧ w.heap.size ≤ tb ∧ TrieAt w' w.heap.size 0 tb [] ∧ Below w.heap.size w w' := by
  go_enter Tryd.func14, Tryd.ntmps14
  go_wp2
  go_ret
  have h1 := heap_new (w.alloc (.cells #[.slice none 0 0, .slice none 0 0, .map none] 73)) (.cells #[.pointer (some ⟨w.heap.size, 0, none⟩), .int .i64 0] 75)
  have h2 := heap_new w (.cells #[.slice none 0 0, .slice none 0 0, .map none] 73)
  have h3 : (w.alloc (.cells #[.slice none 0 0, .slice none 0 0, .map none] 73)).heap.size = w.heap.size + 1 := by simp
  rw [h3] at h1
  refine ⟨w.heap.size + 1, rfl, by omega, ⟨w.heap.size, _, h1, by omega, inv_new _ _ _ (Nat.le_refl _) ((Below.heap_alloc _ _ _ (by simp)).trans h2)⟩, ((Below.refl _ _).alloc (Nat.le_refl _) _).alloc (by simp) _⟩
theorem len_calls (tb B K : Nat) (ps : List Pat) (w : World) (hT : TrieAt w B K tb ps) : Calls Tryd.prog 21 #[.pointer (some ⟨tb, 0, none⟩)] w fun e w' => e = .returned (.int .i64 (ps.length : Int)) ∧ w = w' := by
  obtain ⟨top, F, htb, -, -⟩ := hT
  have c1 := blk_cell htb 1
  clear htb
  go_enter Tryd.func21, Tryd.ntmps21
  go_wp2
  go_ret
  exact ⟨rfl, rfl⟩
theorem len_nil (w : World) : Calls Tryd.prog 21 #[.pointer none] w fun e w' => e = .returned (.int .i64 0) ∧ w = w' := by
  go_enter Tryd.func21, Tryd.ntmps21
  go_wp2
  go_ret
  exact ⟨rfl, rfl⟩
theorem add_nil (s : ByteArray) (b : Bool) (i : Int) (w : World) : Calls Tryd.prog 17 #[.pointer none, .string s, .bool b, .int .i64 i] w fun e w' => e = .returned (.tuple #[]) ∧ w = w' := by
  go_enter Tryd.func17, Tryd.ntmps17
  go_wp2
  go_returns
  exact ⟨rfl, rfl⟩
theorem match_nil (s : ByteArray) (w : World) : Calls Tryd.prog 19 #[.pointer none, .string s] w fun e w' => e = .returned (.slice none 0 0) ∧ w = w' := by
  go_enter Tryd.func19, Tryd.ntmps19
  go_wp2
  go_ret
  exact ⟨rfl, rfl⟩
/-! ints held against each other -/
theorem samei1_calls (x y : Int) (w : World) : Calls Tryd.prog 37 #[.int .i64 x, .int .i64 y] w fun e w' => e = .returned (.bool (x == y)) ∧ w = w' := by
  go_enter Tryd.func37, Tryd.ntmps37
  go_wp2
  go_ret
  exact ⟨rfl, rfl⟩
theorem samei_calls (A B : Option Addr) (n m c d : Nat) (xs : List Int) (w : World) (h : (Kd.int .i64).C w A n xs) (h2 : (Kd.int .i64).C w B m xs) :
    Calls Tryd.prog 36 #[.slice A n c, .slice B m d, .func (.func 37) #[] #[]] w fun e w' => e = .returned (.bool true) ∧ Below w.heap.size w w' := by
  obtain rfl := (C_len h).1
  obtain rfl := (C_len h2).1
  have hm := (C_len h).2
  have HC := Kp.mk h
  have HD := Kp.mk h2
  clear h h2
  go_enter Tryd.func36, Tryd.ntmps36
  go_wp2_with (fail)
  go_loopw [7] (fun i wr => ∃ k : Nat, k ≤ xs.length ∧ i = .int .i64 k ∧ Kp (Below w.heap.size w wr)) (fun i _ => xs.length - (intOf i).toNat)
  case atStart => exact ⟨0, Nat.zero_le _, rfl, ⟨Below.refl _ _⟩⟩
  case round =>
    obtain ⟨k, hk, rfl, HW⟩ := hrel
    by_cases hlt : k < xs.length
    · obtain ⟨ad, rfl, hcell⟩ := at_nat (Kd.C_below HC.out HW.out) k hlt
      obtain ⟨bd, rfl, hcell2⟩ := at_nat (Kd.C_below HD.out HW.out) k hlt
      obtain ⟨x, hx⟩ : ∃ x, xs.getD k 0 = x := ⟨_, rfl⟩
      rw [hx] at hcell hcell2
      have bx : (x == x) = true := by simp
      have i0 : (0 : Int) ≤ (k : Int) := by omega
      have i1 : (k : Int) < (xs.length : Int) := by omega
      clear hx
      go_wp2_with (fail)
      go_quiet ((go_at_call 37; exact quiet_l (samei1_calls _ _ _)))
      go_wp2
      exact ⟨⟨k + 1, by omega, by go_num, ⟨pw_below_drewN HW.out _⟩⟩, by simp [intOf]; omega⟩
    · obtain rfl : k = xs.length := by omega
      go_wp2
      go_ret
      exact ⟨rfl, HW.out⟩
theorem plaini_calls (A B : Option Addr) (n m c d : Nat) (xs : List Int) (w : World) (h : (Kd.int .i64).C w A n xs) (h2 : (Kd.int .i64).C w B m xs) :
    Calls Tryd.prog 18 #[.slice A n c, .slice B m d] w fun e w' => e = .returned (.bool true) ∧ Below w.heap.size w w' := by
  have HC := Kp.mk h
  have HD := Kp.mk h2
  clear h h2
  go_enter Tryd.func18, Tryd.ntmps18
  go_wp2_with (fail)
  refine (samei_calls _ _ _ _ _ _ xs _ HC.out HD.out).mono ?_
  rintro e w1 ⟨rfl, hb⟩
  have HB := Kp.mk hb
  clear hb
  go_wp2
  go_ret
  exact ⟨rfl, HB.out⟩
/-- A literal row of ints. -/
theorem lit_ints (W : World) (base : Nat) (xs : List Int) (hb : base ≤ W.heap.size) (hm : xs.length ≤ 9223372036854775807) :
    (Kd.int .i64).R 3 (W.alloc (.cells (xs.map (Value.int .i64)).toArray 3)) base (fun _ => True) (.slice (some ⟨W.heap.size, 0, none⟩) xs.length xs.length) xs :=
  Kd.R_of_own (by have h := own_lit W base 3 .i64 xs hb hm; simpa [nums, encs] using h) (fun _ _ => trivial)
theorem aw_match1 : matchF [⟨pathOf [97, 46, 98], true, 5⟩, ⟨pathOf [97, 46, 98], false, 6⟩] (pathOf [99, 46, 97, 46, 98]) = [5] := by decide +kernel
theorem aw_match2 : matchF [⟨pathOf [97, 46, 98], true, 5⟩, ⟨pathOf [97, 46, 98], false, 6⟩] (pathOf [97, 46, 98]) = [6] := by decide +kernel
theorem aw_path : (pathOf [97, 46, 98]).length = 2 := by decide +kernel
/-- A trie of the call's own, and what has become of the world. -/
structure Tr (w0 w : World) (B K tb : Nat) (ps : List Pat) : Prop where
  trie : TrieAt w B K tb ps
  st : StM w0 w
  e0 : EnvM w0
  lo : w0.heap.size ≤ B
  hi : B ≤ w.heap.size
theorem Tr.step {w0 w w' : World} {B K tb : Nat} {ps : List Pat} (h : Tr w0 w B K tb ps) (hb : Below w.heap.size w w') : Tr w0 w' B K tb ps := ⟨h.trie.below hb, h.st.step hb, h.e0, h.lo, Nat.le_trans h.hi hb.size⟩
section
variable {w0 W : World} {Q : Ending → World → Prop}
theorem new_ (HS : Kp (StM w0 W)) (HE : Kp (EnvM w0)) (k : ∀ tb W', Kp (Below W.heap.size W W') → Kp (Tr w0 W' W.heap.size 0 tb []) → Q (.returned (.pointer (some ⟨tb, 0, none⟩))) W') : Calls Tryd.prog 14 #[] W Q :=
  (new_calls W).mono fun e w' ⟨tb, he, h1, h2, h3⟩ => by subst he; exact k tb w' ⟨h3⟩ ⟨⟨h2, HS.out.step h3, HE.out, HS.out.size, h3.size⟩⟩
theorem add_ {B K tb : Nat} {ps : List Pat} (HT : Kp (Tr w0 W B K tb ps)) (s : ByteArray) (b : Bool) (i : Int) (hs : s.size ≤ 10000) (hK : K ≤ 1000000000) (hn : ps.length ≤ 1000000)
    (k : ∀ W', Kp (Tr w0 W' B (K + 10001) tb (ps ++ [⟨pathOf s.data.toList, b, i⟩])) → Kp (Below B W W') → Q (.returned (.tuple #[])) W') : Calls Tryd.prog 17 #[.pointer (some ⟨tb, 0, none⟩), .string s, .bool b, .int .i64 i] W Q :=
  (add_calls tb B K ps s b i W HT.out.trie HT.out.st.env HT.out.hi hs hK hn).mono fun e w' ⟨he, h1, h2⟩ => by
    subst he
    have hpl : (pathOf s.data.toList).length ≤ 10001 := by
      have h1 := labels_few s.data.toList
      have h2 : s.data.toList.length = s.size := data_length s
      rw [pathOf, List.length_reverse]
      omega
    obtain ⟨top, F, t1, t2, t3⟩ := h1
    have hb : Below w0.heap.size w0 w' := HT.out.st.below.trans (h2.mono HT.out.lo)
    refine k w' ⟨⟨⟨top, F, t1, t2, t3.mono (by omega)⟩, ⟨hb, HT.out.e0.below hb⟩, HT.out.e0, HT.out.lo, Nat.le_trans HT.out.hi h2.size⟩⟩ ⟨h2⟩
theorem match_ {B K tb : Nat} {ps : List Pat} (HT : Kp (Tr w0 W B K tb ps)) (s : ByteArray) (hs : s.size ≤ 10000) (hn : ps.length ≤ 1000000)
    (k : ∀ A c W', (matchF ps (pathOf s.data.toList)).length ≤ c → Kp ((Kd.int .i64).C W' A (matchF ps (pathOf s.data.toList)).length (matchF ps (pathOf s.data.toList))) → Kp (Below W.heap.size W W') → Kp (Tr w0 W' B K tb ps) → Q (.returned (.slice A (matchF ps (pathOf s.data.toList)).length c)) W') : Calls Tryd.prog 19 #[.pointer (some ⟨tb, 0, none⟩), .string s] W Q :=
  (match_calls tb B K ps s W HT.out.trie HT.out.st.env hs hn).mono fun e w' ⟨v, he, hm, hb⟩ => by
    subst he
    obtain ⟨A, c, rfl, h1, h2⟩ := slice_open (intsK.K_of_M hm)
    exact k A c w' h1 ⟨h2⟩ ⟨hb⟩ ⟨HT.out.step hb⟩
end
theorem awake20_calls (w : World) (hE : EnvM w) : Calls Tryd.prog 15 #[] w fun e w' => e = .returned (.bool true) ∧ Below w.heap.size w w' := by
  have HE := Kp.mk hE
  have HS := Kp.mk (StM.start hE)
  clear hE
  go_enter Tryd.func15, Tryd.ntmps15
  go_wp2_with (fail)
  refine new_ HS HE ?_
  intro tb w1 HB1 HT1
  go_wp2_with (fail)
  refine add_ HT1 (mkB [97, 46, 98]) true 5 (by decide) (by decide) (by decide) ?_
  intro w2 HT2 HB2
  go_wp2_with (fail)
  refine add_ HT2 (mkB [97, 46, 98]) false 6 (by decide) (by decide) (by decide) ?_
  intro w3 HT3 HB3
  rw [mkB_toList, List.nil_append, List.cons_append, List.nil_append] at HT3
  go_wp2_with (fail)
  refine match_ HT3 (mkB [99, 46, 97, 46, 98]) (by decide) (by decide) ?_
  intro A4 c4 w4 hc4 HC4 HB4 HT4
  rw [mkB_toList, aw_match1] at *
  have hl4 := lit_ints w4 w4.heap.size [5] (Nat.le_refl _) (by decide)
  have HL4 := Kp.mk (R_C hl4).1
  have HBL := Kp.mk ((Below.refl w4.heap.size w4).alloc (Nat.le_refl _) (.cells (([5] : List Int).map (Value.int .i64)).toArray 3))
  have HC4a := Kp.mk (Kd.C_below HC4.out HBL.out)
  have HT4a := Kp.mk (HT4.out.step HBL.out)
  clear hl4
  go_wp2_with (fail)
  refine bM_ (plaini_calls _ _ _ _ _ _ [5] _ HC4a.out HL4.out) (Kp.mk HT4a.out.st) ?_
  intro w5 HB5 HS5
  have HT5 := Kp.mk (HT4a.out.step HB5.out)
  go_wp2_with (fail)
  refine match_ HT5 (mkB [97, 46, 98]) (by decide) (by decide) ?_
  intro A6 c6 w6 hc6 HC6 HB6 HT6
  rw [mkB_toList, aw_match2] at *
  have hl6 := lit_ints w6 w6.heap.size [6] (Nat.le_refl _) (by decide)
  have HL6 := Kp.mk (R_C hl6).1
  have HBM := Kp.mk ((Below.refl w6.heap.size w6).alloc (Nat.le_refl _) (.cells (([6] : List Int).map (Value.int .i64)).toArray 3))
  have HC6a := Kp.mk (Kd.C_below HC6.out HBM.out)
  have HT6a := Kp.mk (HT6.out.step HBM.out)
  clear hl6
  go_wp2_with (fail)
  refine bM_ (plaini_calls _ _ _ _ _ _ [6] _ HC6a.out HL6.out) (Kp.mk HT6a.out.st) ?_
  intro w7 HB7 HS7
  have HT7 := Kp.mk (HT6a.out.step HB7.out)
  go_wp2_with (fail)
  refine q_ (len_calls tb _ _ _ _ HT7.out.trie) ?_
  go_wp2
  go_ret
  exact ⟨rfl, HS7.out.below⟩
end Go.Proofs.YtimaliamidgflaaDoor

namespace Go.Proofs.YtimaliamidgflaaDoor
open Go.RowKit Go.Proofs.YtimaliamidgflaaDoorW.PrintWords Go.Maps
set_option linter.unusedVariables false
set_option linter.unusedSimpArgs false
set_option maxRecDepth 100000
set_option maxHeartbeats 1000000

theorem own_ge {α : Type} {t : TypeId} {w : World} {base : Nat} {d : Kd α} {v : Value} {xs : List α} (h : d.R t w base (fun _ => True) v xs) (k : Nat) (hk : v.ownBlock = some k) : base ≤ k := by
  obtain ⟨inner, ho⟩ := Kd.R_own h
  rcases ho.2 with ⟨h1, -⟩ | ⟨g, cap, cur, hv, hb, -⟩
  · subst h1; simp [Value.ownBlock] at hk
  · subst hv; simp [Value.ownBlock] at hk; omega
theorem TrieS.base {w : World} {B K tb : Nat} {ps : List Pat} (h : TrieAt w B K tb ps) : TrieS (fun k => B ≤ k) w B K tb ps := by
  obtain ⟨top, F, h1, h2, h3⟩ := h
  refine ⟨top, F, h1, h2, h3, h2, fun k hf => ?_⟩
  obtain ⟨p, nd, hF, rfl | hm | ⟨b, hb⟩⟩ := hf
  · exact (h3.node p nd hF).lo
  · exact ((h3.node p nd hF).map k hm).1
  · exact own_ge ((h3.node p nd hF).row b) k hb
/-- A trie in some blocks alone. -/
structure Tb (w0 w : World) (S : Nat → Prop) (B K tb : Nat) (ps : List Pat) : Prop where
  trie : TrieS S w B K tb ps
  lt : ∀ k, S k → k < w.heap.size
  lo : w0.heap.size ≤ B
  hi : B ≤ w.heap.size
theorem Tb.same {w0 w w' : World} {S : Nat → Prop} {B K tb : Nat} {ps : List Pat} (h : Tb w0 w S B K tb ps) (hz : w.heap.size ≤ w'.heap.size) (hk : ∀ k, k < w.heap.size → S k → w'.heap[k]? = w.heap[k]?) : Tb w0 w' S B K tb ps :=
  ⟨h.trie.same hk, fun k hs => Nat.lt_of_lt_of_le (h.lt k hs) hz, h.lo, Nat.le_trans h.hi hz⟩
theorem Tb.step {w0 w w' : World} {S : Nat → Prop} {B K tb : Nat} {ps : List Pat} (h : Tb w0 w S B K tb ps) (hb : Below w.heap.size w w') : Tb w0 w' S B K tb ps :=
  h.same hb.size (fun k hk _ => hb.block k hk)
theorem StM.stepB {w0 W W' : World} {B : Nat} (h : StM w0 W) (he : EnvM w0) (hB : w0.heap.size ≤ B) (hb : Below B W W') : StM w0 W' :=
  have h1 := h.below.trans (hb.mono hB)
  ⟨h1, he.below h1⟩
/-- A row that a change does not reach. -/
theorem rowS_keep {t : TypeId} {w w' : World} {n0 : Nat} {v : Value} {xs : List ByteArray} (h : Kd.string.R t w n0 (fun _ => True) v xs) (hk : ∀ k, k < w.heap.size → v.ownBlock = some k → w'.heap[k]? = w.heap[k]?) : Kd.string.R t w' n0 (fun _ => True) v xs :=
  Kd.R_of_own (own_move (Kd.own_of_R h) (fun k hv => hk k (own_lt (Kd.own_of_R h) k hv) hv)) (fun _ _ => trivial)
theorem rowI_keep {t : TypeId} {w w' : World} {n0 : Nat} {v : Value} {xs : List Int} (h : (Kd.int .i64).R t w n0 (fun _ => True) v xs) (hk : ∀ k, k < w.heap.size → v.ownBlock = some k → w'.heap[k]? = w.heap[k]?) : (Kd.int .i64).R t w' n0 (fun _ => True) v xs :=
  Kd.R_of_own (own_move (Kd.own_of_R h) (fun k hv => hk k (own_lt (Kd.own_of_R h) k hv) hv)) (fun _ _ => trivial)
section
variable {w0 W : World} {Q : Ending → World → Prop}
theorem newT_ (HS : Kp (StM w0 W)) (k : ∀ tb W', Kp (Below W.heap.size W W') → Kp (StM w0 W') → Kp (Tb w0 W' (fun k => W.heap.size ≤ k ∧ k < W'.heap.size) W.heap.size 0 tb []) → Q (.returned (.pointer (some ⟨tb, 0, none⟩))) W') : Calls Tryd.prog 14 #[] W Q :=
  (new_calls W).mono fun e w' ⟨tb, he, h1, h2, h3⟩ => by
    subst he
    exact k tb w' ⟨h3⟩ ⟨HS.out.step h3⟩ ⟨⟨(TrieS.base h2).less fun k hk hs => ⟨hs, hk⟩, fun k h => h.2, HS.out.size, h3.size⟩⟩
theorem addT_ {S : Nat → Prop} {B K tb : Nat} {ps : List Pat} (HT : Kp (Tb w0 W S B K tb ps)) (HS : Kp (StM w0 W)) (HE : Kp (EnvM w0)) (s : ByteArray) (b : Bool) (i : Int) (hs : s.size ≤ 10000) (hK : K ≤ 1000000000) (hn : ps.length ≤ 1000000)
    (k : ∀ S' W', Kp (Tb w0 W' S' B (K + 10001) tb (ps ++ [⟨pathOf s.data.toList, b, i⟩])) → Kp (StM w0 W') → Kp (∀ k, k < W.heap.size → ¬ S k → W'.heap[k]? = W.heap[k]?) → Kp (∀ k, S' k → S k ∨ W.heap.size ≤ k) → Kp (W.heap.size ≤ W'.heap.size) → Q (.returned (.tuple #[])) W') : Calls Tryd.prog 17 #[.pointer (some ⟨tb, 0, none⟩), .string s, .bool b, .int .i64 i] W Q :=
  (addS_calls S tb B K ps s b i W HT.out.trie HS.out.env HT.out.hi hs hK hn).mono fun e w' ⟨he, h1, h2, h3⟩ => by
    subst he
    have hpl : (pathOf s.data.toList).length ≤ 10001 := by
      have h1 := labels_few s.data.toList
      have h2 : s.data.toList.length = s.size := data_length s
      rw [pathOf, List.length_reverse]
      omega
    have ht : TrieS (fun k => S k ∨ W.heap.size ≤ k) w' B (K + 10001) tb (ps ++ [⟨pathOf s.data.toList, b, i⟩]) := by
      obtain ⟨top, F, t1, t2, t3, t4, t5⟩ := h1
      exact ⟨top, F, t1, t2, t3.mono (by omega), t4, t5⟩
    exact k (fun k => (S k ∨ W.heap.size ≤ k) ∧ k < w'.heap.size) w' ⟨⟨ht.less fun k hk hs => ⟨hs, hk⟩, fun k h => h.2, HT.out.lo, Nat.le_trans HT.out.hi h2.size⟩⟩ ⟨HS.out.stepB HE.out HT.out.lo h2⟩ ⟨h3⟩ ⟨fun k h => h.1⟩ ⟨h2.size⟩
theorem matchT_ {S : Nat → Prop} {B K tb : Nat} {ps : List Pat} (HT : Kp (Tb w0 W S B K tb ps)) (HS : Kp (StM w0 W)) (s : ByteArray) (hs : s.size ≤ 10000) (hn : ps.length ≤ 1000000)
    (k : ∀ A c W', (matchF ps (pathOf s.data.toList)).length ≤ c → Kp ((Kd.int .i64).C W' A (matchF ps (pathOf s.data.toList)).length (matchF ps (pathOf s.data.toList))) → Kp (Below W.heap.size W W') → Kp (StM w0 W') → Q (.returned (.slice A (matchF ps (pathOf s.data.toList)).length c)) W') : Calls Tryd.prog 19 #[.pointer (some ⟨tb, 0, none⟩), .string s] W Q :=
  (match_calls tb B K ps s W HT.out.trie.at_ HS.out.env hs hn).mono fun e w' ⟨v, he, hm, hb⟩ => by
    subst he
    obtain ⟨A, c, rfl, h1, h2⟩ := slice_open (intsK.K_of_M hm)
    exact k A c w' h1 ⟨h2⟩ ⟨hb⟩ ⟨HS.out.step hb⟩
end
end Go.Proofs.YtimaliamidgflaaDoor
