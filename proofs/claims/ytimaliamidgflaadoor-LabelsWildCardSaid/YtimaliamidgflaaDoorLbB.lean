/-
  Package labels: how a trie lies in memory, and how the steps of Add turn it.
-/
import Derived.Test.YtimaliamidgflaaDoorLbA
import Derived.Maps.OwnOps
import Derived.Maps.Views
namespace Go.Proofs.YtimaliamidgflaaDoor
open Go.RowKit Go.Proofs.YtimaliamidgflaaDoorW.PrintWords Go.Maps
set_option linter.unusedVariables false
set_option linter.unusedSimpArgs false
set_option maxRecDepth 100000
set_option maxHeartbeats 1000000

/-- A pattern: its labels, the last one first. -/
structure Pat where
  path : List L
  wild : Bool
  id : Int
/-- What stands for a name (b: for what is under it). -/
def idsAt (ps : List Pat) (p : List L) (b : Bool) : List Int := (ps.filter fun x => decide (x.path = p) && x.wild == b).map Pat.id
theorem idsAt_same (ps : List Pat) (p : List L) (b : Bool) (i : Int) : idsAt (ps ++ [⟨p, b, i⟩]) p b = idsAt ps p b ++ [i] := by simp [idsAt]
theorem idsAt_other (ps : List Pat) (x : Pat) (p : List L) (b : Bool) (h : ¬ (x.path = p ∧ x.wild = b)) : idsAt (ps ++ [x]) p b = idsAt ps p b := by
  have : (decide (x.path = p) && x.wild == b) = false := by
    rw [Bool.and_eq_false_iff]
    by_cases h1 : x.path = p
    · exact .inr (by simpa using fun h2 => h ⟨h1, h2⟩)
    · exact .inl (by simpa using h1)
  simp [idsAt, List.filter_append, this]
theorem idsAt_none (ps : List Pat) (p : List L) (b : Bool) (h : ∀ x ∈ ps, x.path ≠ p) : idsAt ps p b = [] := by
  rw [idsAt, List.map_eq_nil_iff, List.filter_eq_nil_iff]
  intro x hx
  simp [h x hx]
theorem idsAt_len (ps : List Pat) (p : List L) (b : Bool) : (idsAt ps p b).length ≤ ps.length := by
  rw [idsAt, List.length_map]
  exact List.length_filter_le ..

/-- A node: its block, its rows, its map. -/
structure Nd where
  blk : Nat
  row : Bool → Value
  mv : Option Nat
  D : DataW Unit
/-- A node's address in a map. -/
def ptrElem (v : Value) : Option (DataW Unit × List MemPlace) :=
  match v with
  | .pointer none => some (.nil, [])
  | .pointer (some ⟨b, 0, none⟩) => some (.lit (.int .i64 b), [])
  | _ => none
def ptrD : Option Nat → DataW Unit
  | none => .nil
  | some b => .lit (.int .i64 b)
def ptrV : Option Nat → Value
  | none => .pointer none
  | some b => .pointer (some ⟨b, 0, none⟩)
theorem ptrElem_V (x : Option Nat) : ptrElem (ptrV x) = some (ptrD x, []) := by cases x <;> rfl
theorem ptrD_inj {x y : Option Nat} (h : ptrD x = ptrD y) : x = y := by
  cases x <;> cases y <;> simp [ptrD] at h ⊢
  omega
theorem ptrElem_inv {v : Value} {x : Option Nat} {ps : List MemPlace} (h : ptrElem v = some (ptrD x, ps)) : v = ptrV x := by
  unfold ptrElem at h
  split at h
  · have := ptrD_inj (x := none) (y := x) (by simpa [ptrD] using congrArg Prod.fst (Option.some.inj h))
    subst this; rfl
  · rename_i b
    have := ptrD_inj (x := some b) (y := x) (by simpa [ptrD] using congrArg Prod.fst (Option.some.inj h))
    subst this; rfl
  · cases h
def childOf (nd : Nd) (s : L) : DataW Unit :=
  match nd.mv with
  | none => .nil
  | some _ => nd.D.atKey (.string s) .nil
theorem strKey : Keyed Tryd.prog 9 := string_keyed Tryd.underlying9

structure NodeOK (w : World) (B K : Nat) (ps : List Pat) (p : List L) (nd : Nd) : Prop where
  blk : w.heap[nd.blk]? = some (.cells #[nd.row false, nd.row true, .map nd.mv] 73 (0, 0))
  lo : B ≤ nd.blk
  row : ∀ b, (Kd.int .i64).R 3 w B (fun _ => True) (nd.row b) (idsAt ps p b)
  map : ∀ m, nd.mv = some m → B ≤ m ∧ w.ownsMap Tryd.prog 9 ptrElem m K nd.D ∧ IsMap nd.D
/-- A row, where one block alone has turned. -/
theorem R_only {w w' : World} {z B : Nat} {v : Value} {xs : List Int} (h : (Kd.int .i64).R 3 w B (fun _ => True) v xs) (hk : ∀ k, k < w.heap.size → k ≠ z → w'.heap[k]? = w.heap[k]?) (hz : v.ownBlock ≠ some z) : (Kd.int .i64).R 3 w' B (fun _ => True) v xs :=
  Kd.R_of_own (own_move (Kd.own_of_R h) (fun k hv => hk k (own_lt (Kd.own_of_R h) k hv) (fun e => hz (by rw [hv, e])))) (fun _ _ => trivial)
theorem map_only {w w' : World} {z m K : Nat} {D : DataW Unit} (h : w.ownsMap Tryd.prog 9 ptrElem m K D) (hk : ∀ k, k < w.heap.size → k ≠ z → w'.heap[k]? = w.heap[k]?) (hz : m ≠ z) : w'.ownsMap Tryd.prog 9 ptrElem m K D := by
  have hl := h.lt
  obtain ⟨es, clock, hb, F, hs, hD⟩ := h
  exact ⟨es, clock, (hk m hl hz).trans hb, F, hs, hD⟩
theorem NodeOK.only {w w' : World} {z B K K' : Nat} {ps : List Pat} {p : List L} {nd : Nd} (h : NodeOK w B K ps p nd) (hK : K ≤ K') (hk : ∀ k, k < w.heap.size → k ≠ z → w'.heap[k]? = w.heap[k]?) (h1 : nd.blk ≠ z) (h2 : nd.mv ≠ some z) (h3 : ∀ b, (nd.row b).ownBlock ≠ some z) : NodeOK w' B K' ps p nd where
  blk := (hk _ (heap_lt h.blk) h1).trans h.blk
  lo := h.lo
  row := fun b => R_only (h.row b) hk (h3 b)
  map := fun m hm => ⟨(h.map m hm).1, (map_only (h.map m hm).2.1 hk (fun e => h2 (by rw [hm, e]))).mono hK, (h.map m hm).2.2⟩
/-- A row's block is no node's, a map's no row's, and so on. -/
theorem NodeOK.row_ty {w : World} {B K : Nat} {ps : List Pat} {p : List L} {nd : Nd} (h : NodeOK w B K ps p nd) (b : Bool) (k : Nat) (hk : (nd.row b).ownBlock = some k) : ∃ cells, w.heap[k]? = some (.cells cells 3 (0, 0)) := own_typed (Kd.own_of_R (h.row b)) k hk
theorem NodeOK.map_ty {w : World} {B K : Nat} {ps : List Pat} {p : List L} {nd : Nd} (h : NodeOK w B K ps p nd) (m : Nat) (hm : nd.mv = some m) : ∃ es c, w.heap[m]? = some (.map es c) := by
  obtain ⟨-, ⟨es, clock, hb, -⟩, -⟩ := h.map m hm
  exact ⟨es, clock, hb⟩

structure Inv (w : World) (B K top : Nat) (F : List L → Option Nd) (ps : List Pat) : Prop where
  node : ∀ p nd, F p = some nd → NodeOK w B K ps p nd
  blks : ∀ p q nd nd', F p = some nd → F q = some nd' → nd.blk = nd'.blk → p = q
  maps : ∀ p q nd nd' m, F p = some nd → F q = some nd' → nd.mv = some m → nd'.mv = some m → p = q
  rows : ∀ p q nd nd' b c k, F p = some nd → F q = some nd' → (nd.row b).ownBlock = some k → (nd'.row c).ownBlock = some k → p = q ∧ b = c
  child : ∀ p nd s, F p = some nd → childOf nd s = ptrD ((F (p ++ [s])).map Nd.blk)
  root : ∃ nd, F [] = some nd ∧ nd.blk = top
  pats : ∀ x ∈ ps, (F x.path).isSome = true
  up : ∀ p s, (F (p ++ [s])).isSome = true → (F p).isSome = true
theorem Inv.below {w w' : World} {B K top : Nat} {F : List L → Option Nd} {ps : List Pat} (h : Inv w B K top F ps) (hb : Below w.heap.size w w') : Inv w' B K top F ps :=
  { h with node := fun p nd hF => (h.node p nd hF).only (z := w.heap.size) (Nat.le_refl _) (fun k hk _ => hb.block k hk) (by have := heap_lt (h.node p nd hF).blk; omega) (fun e => by
      obtain ⟨es, c, hm⟩ := (h.node p nd hF).map_ty _ e
      have := heap_lt hm; omega) (fun b e => by
      obtain ⟨cs, hm⟩ := (h.node p nd hF).row_ty b _ e
      have := heap_lt hm; omega) }
/-- The count beside it turns nothing. -/
theorem Inv.count {w : World} {B K top tb : Nat} {F : List L → Option Nd} {ps : List Pat} {cs : Array Value} (h : Inv w B K top F ps) (htb : w.heap[tb]? = some (.cells cs 75 (0, 0))) {v : Value} (i : Nat) : Inv (w.setCell ⟨tb, i, none⟩ v) B K top F ps :=
  { h with node := fun p nd hF => (h.node p nd hF).only (z := tb) (Nat.le_refl _) (fun k _ hne => Below.heap_setCell _ _ _ _ (by simpa using hne)) (fun e => by
      have h1 := (h.node p nd hF).blk
      rw [e, htb] at h1
      injection h1 with h1
      injection h1 with _ h2
      exact absurd h2 (by decide)) (fun e => by
      obtain ⟨es, c, hm⟩ := (h.node p nd hF).map_ty _ e
      rw [htb] at hm
      injection hm with hm
      cases hm) (fun b e => by
      obtain ⟨cs', hm⟩ := (h.node p nd hF).row_ty b _ e
      rw [htb] at hm
      injection hm with hm
      injection hm with _ h2
      exact absurd h2 (by decide)) }
theorem Inv.mono {w : World} {B K K' top : Nat} {F : List L → Option Nd} {ps : List Pat} (h : Inv w B K top F ps) (hK : K ≤ K') : Inv w B K' top F ps :=
  { h with node := fun p nd hF => (h.node p nd hF).only (z := w.heap.size) hK (fun _ _ _ => rfl) (by have := heap_lt (h.node p nd hF).blk; omega) (fun e => by
      obtain ⟨es, c, hm⟩ := (h.node p nd hF).map_ty _ e
      have := heap_lt hm; omega) (fun b e => by
      obtain ⟨cs, hm⟩ := (h.node p nd hF).row_ty b _ e
      have := heap_lt hm; omega) }
def put (F : List L → Option Nd) (p : List L) (nd : Nd) : List L → Option Nd := fun q => if q = p then some nd else F q
theorem put_same (F : List L → Option Nd) (p : List L) (nd : Nd) : put F p nd p = some nd := if_pos rfl
theorem put_other (F : List L → Option Nd) (p q : List L) (nd : Nd) (h : q ≠ p) : put F p nd q = F q := if_neg h
theorem put_cases {F : List L → Option Nd} {p q : List L} {nd nd' : Nd} (h : put F p nd q = some nd') : (q = p ∧ nd' = nd) ∨ (q ≠ p ∧ F q = some nd') := by
  by_cases e : q = p
  · subst e
    rw [put_same] at h
    exact .inl ⟨rfl, (Option.some.inj h).symm⟩
  · rw [put_other _ _ _ _ e] at h
    exact .inr ⟨e, h⟩
theorem snoc_ne (p : List L) (s : L) : p ++ [s] ≠ p := by
  intro h
  have := congrArg List.length h
  simp at this

section
variable {w w' : World} {B K top : Nat} {F : List L → Option Nd} {ps : List Pat} {p : List L} {nd : Nd}
/-- A node's block is no row's. -/
theorem Inv.blk_row (h : Inv w B K top F ps) (hF : F p = some nd) {q : List L} {nd' : Nd} (hq : F q = some nd') (b : Bool) : (nd'.row b).ownBlock ≠ some nd.blk := fun e => by
  obtain ⟨cs, h1⟩ := (h.node q nd' hq).row_ty b _ e
  rw [(h.node p nd hF).blk] at h1
  injection h1 with h1
  injection h1 with _ h1
  exact absurd h1 (by decide)
theorem Inv.blk_map (h : Inv w B K top F ps) (hF : F p = some nd) {q : List L} {nd' : Nd} (hq : F q = some nd') : nd'.mv ≠ some nd.blk := fun e => by
  obtain ⟨es, c, h1⟩ := (h.node q nd' hq).map_ty _ e
  rw [(h.node p nd hF).blk] at h1
  injection h1 with h1
  cases h1
theorem Inv.map_row (h : Inv w B K top F ps) (hF : F p = some nd) {m : Nat} (hm : nd.mv = some m) {q : List L} {nd' : Nd} (hq : F q = some nd') (b : Bool) : (nd'.row b).ownBlock ≠ some m := fun e => by
  obtain ⟨cs, h1⟩ := (h.node q nd' hq).row_ty b _ e
  obtain ⟨es, c, h2⟩ := (h.node p nd hF).map_ty _ hm
  rw [h2] at h1
  injection h1 with h1
  cases h1
theorem Inv.lt_blk (h : Inv w B K top F ps) (hF : F p = some nd) : nd.blk < w.heap.size := heap_lt (h.node p nd hF).blk
theorem Inv.lt_map (h : Inv w B K top F ps) (hF : F p = some nd) {m : Nat} (hm : nd.mv = some m) : m < w.heap.size := by
  obtain ⟨es, c, h1⟩ := (h.node p nd hF).map_ty _ hm
  exact heap_lt h1
theorem Inv.lt_row (h : Inv w B K top F ps) (hF : F p = some nd) {b : Bool} {k : Nat} (hk : (nd.row b).ownBlock = some k) : k < w.heap.size := by
  obtain ⟨cs, h1⟩ := (h.node p nd hF).row_ty b _ hk
  exact heap_lt h1

/-- A node gets a map. -/
theorem Inv.newmap (h : Inv w B K top F ps) (hF : F p = some nd) (hm : nd.mv = none) (hB : B ≤ w.heap.size) :
    Inv ((w.alloc (.map #[] 0)).setCell ⟨nd.blk, 2, none⟩ (.map (some w.heap.size))) B K top (put F p ⟨nd.blk, nd.row, some w.heap.size, .map []⟩) ps := by
  have hlt := h.lt_blk hF
  have hk : ∀ k, k < w.heap.size → k ≠ nd.blk → ((w.alloc (.map #[] 0)).setCell ⟨nd.blk, 2, none⟩ (.map (some w.heap.size))).heap[k]? = w.heap[k]? := fun k hk hne =>
    (Below.heap_setCell _ _ _ _ (by simpa using hne)).trans (Below.heap_alloc _ _ _ hk)
  have hn := h.node p nd hF
  have hb : (w.alloc (.map #[] 0)).heap[nd.blk]? = some (.cells #[nd.row false, nd.row true, .map nd.mv] 73 (0, 0)) := (Below.heap_alloc _ _ _ hlt).trans hn.blk
  constructor
  · intro q nd' hq
    rcases put_cases hq with ⟨rfl, rfl⟩ | ⟨hne, hq'⟩
    · refine ⟨blk_put hb 2 _ rfl, hn.lo, fun b => R_only (hn.row b) hk (h.blk_row hF hF b), fun m hm' => ?_⟩
      obtain rfl := Option.some.inj hm'
      refine ⟨hB, ?_, isMap_empty⟩
      refine map_only (z := nd.blk) (((w.ownsMap_made Tryd.prog 9 ptrElem).mono (Nat.zero_le K))) (fun k hk2 hne => Below.heap_setCell _ _ _ _ (by simpa using hne)) (by omega)
    · exact (h.node q nd' hq').only (Nat.le_refl _) hk (fun e => hne (h.blks q p nd' nd hq' hF e)) (h.blk_map hF hq') (h.blk_row hF hq')
  · intro q r a b hq hr e
    rcases put_cases hq with ⟨rfl, rfl⟩ | ⟨hne, hq'⟩ <;> rcases put_cases hr with ⟨rfl, rfl⟩ | ⟨hne2, hr'⟩
    · rfl
    · exact h.blks _ _ _ _ hF hr' e
    · exact h.blks _ _ _ _ hq' hF e
    · exact h.blks _ _ _ _ hq' hr' e
  · intro q r a b m hq hr ha hb'
    rcases put_cases hq with ⟨rfl, rfl⟩ | ⟨hne, hq'⟩ <;> rcases put_cases hr with ⟨rfl, rfl⟩ | ⟨hne2, hr'⟩
    · rfl
    · obtain rfl := Option.some.inj ha
      exact absurd (h.lt_map hr' hb') (Nat.lt_irrefl _)
    · obtain rfl := Option.some.inj hb'
      exact absurd (h.lt_map hq' ha) (Nat.lt_irrefl _)
    · exact h.maps _ _ _ _ m hq' hr' ha hb'
  · intro q r a b x y k hq hr ha hb'
    rcases put_cases hq with ⟨rfl, rfl⟩ | ⟨hne, hq'⟩ <;> rcases put_cases hr with ⟨rfl, rfl⟩ | ⟨hne2, hr'⟩
    · exact h.rows _ _ nd nd x y k hF hF ha hb'
    · exact h.rows _ _ nd b x y k hF hr' ha hb'
    · exact h.rows _ _ a nd x y k hq' hF ha hb'
    · exact h.rows _ _ a b x y k hq' hr' ha hb'
  · intro q a s hq
    have hmap : ∀ r, (put F p ⟨nd.blk, nd.row, some w.heap.size, .map []⟩ r).map Nd.blk = (F r).map Nd.blk := fun r => by
      by_cases e : r = p
      · subst e; rw [put_same, hF]; rfl
      · rw [put_other _ _ _ _ e]
    rw [hmap]
    rcases put_cases hq with ⟨rfl, rfl⟩ | ⟨hne, hq'⟩
    · have := h.child q nd s hF
      rw [← this, childOf, childOf, hm]
      rfl
    · exact h.child q a s hq'
  · obtain ⟨r, h1, h2⟩ := h.root
    by_cases e : ([] : List L) = p
    · subst e
      rw [hF] at h1
      obtain rfl := Option.some.inj h1
      exact ⟨_, put_same .., h2⟩
    · exact ⟨r, by rw [put_other _ _ _ _ e]; exact h1, h2⟩
  · intro x hx
    by_cases e : x.path = p
    · rw [e, put_same]; rfl
    · rw [put_other _ _ _ _ e]; exact h.pats x hx
  · intro q s hs
    by_cases e : q = p
    · rw [e, put_same]; rfl
    · rw [put_other _ _ _ _ e]
      by_cases e2 : q ++ [s] = p
      · exact h.up q s (by rw [e2, hF]; rfl)
      · rw [put_other _ _ _ _ e2] at hs
        exact h.up q s hs

/-- A node gets a new node below it. -/
theorem Inv.newchild (h : Inv w B K top F ps) (hF : F p = some nd) {m : Nat} (hm : nd.mv = some m) (s : L) (hnone : childOf nd s = .nil) (hB : B ≤ w.heap.size)
    (ho : w'.ownsMap Tryd.prog 9 ptrElem m (K + 1) (nd.D.put (.string s) (ptrD (some w.heap.size)))) (hg : (w.alloc (.cells #[.slice none 0 0, .slice none 0 0, .map none] 73)).grownBy w' (some m)) :
    Inv w' B (K + 1) top (put (put F p ⟨nd.blk, nd.row, some m, nd.D.put (.string s) (ptrD (some w.heap.size))⟩) (p ++ [s]) ⟨w.heap.size, fun _ => .slice none 0 0, none, .map []⟩) ps := by
  have hlt := h.lt_blk hF
  have hmlt := h.lt_map hF hm
  have hn := h.node p nd hF
  have hpn : F (p ++ [s]) = none := by
    have h1 := h.child p nd s hF
    rw [hnone] at h1
    cases h2 : F (p ++ [s]) with
    | none => rfl
    | some x => rw [h2] at h1; simp [ptrD] at h1
  have hdeep : ∀ t, F (p ++ [s] ++ [t]) = none := fun t => by
    cases h2 : F (p ++ [s] ++ [t]) with
    | none => rfl
    | some x =>
      have := h.up (p ++ [s]) t (by rw [h2]; rfl)
      rw [hpn] at this
      cases this
  have hk : ∀ k, k < w.heap.size → k ≠ m → w'.heap[k]? = w.heap[k]? := fun k hk hne =>
    (hg.block k (by simp; omega) (fun e => hne (Option.some.inj e))).trans (Below.heap_alloc _ _ _ hk)
  have hnew : w'.heap[w.heap.size]? = some (.cells #[.slice none 0 0, .slice none 0 0, .map none] 73 (0, 0)) :=
    (hg.block _ (by simp) (fun e => by have := Option.some.inj e; omega)).trans (heap_new _ _)
  have key : ∀ q nd', put (put F p ⟨nd.blk, nd.row, some m, nd.D.put (.string s) (ptrD (some w.heap.size))⟩) (p ++ [s]) ⟨w.heap.size, fun _ => .slice none 0 0, none, .map []⟩ q = some nd' →
      (q = p ++ [s] ∧ nd' = ⟨w.heap.size, fun _ => .slice none 0 0, none, .map []⟩) ∨ (q = p ∧ nd' = ⟨nd.blk, nd.row, some m, nd.D.put (.string s) (ptrD (some w.heap.size))⟩) ∨ (q ≠ p ∧ q ≠ p ++ [s] ∧ F q = some nd') := by
    intro q nd' hq
    rcases put_cases hq with h1 | ⟨hne, hq'⟩
    · exact .inl h1
    · rcases put_cases hq' with h2 | ⟨hne2, hq2⟩
      · exact .inr (.inl h2)
      · exact .inr (.inr ⟨hne2, hne, hq2⟩)
  constructor
  · intro q nd' hq
    rcases key q nd' hq with ⟨rfl, rfl⟩ | ⟨rfl, rfl⟩ | ⟨hne, -, hq'⟩
    · refine ⟨hnew, hB, fun b => ?_, fun m' hm' => by cases hm'⟩
      rw [idsAt_none ps (p ++ [s]) b (fun x hx e => by have := h.pats x hx; rw [e, hpn] at this; cases this)]
      exact Kd.R_nil _ _ _ _ _
    · refine ⟨by rw [← hm]; exact (hk _ hlt (fun e => h.blk_map hF hF (by rw [hm, e]))).trans hn.blk, hn.lo, fun b => R_only (hn.row b) hk (h.map_row hF hm hF b), fun m' hm' => ?_⟩
      obtain rfl := Option.some.inj hm'
      exact ⟨(hn.map _ hm).1, ho, (hn.map _ hm).2.2.put _ _⟩
    · exact (h.node q nd' hq').only (Nat.le_succ K) hk (fun e => h.blk_map hq' hF (by rw [hm, e])) (fun e => hne (h.maps q p nd' nd m hq' hF e hm)) (h.map_row hF hm hq')
  · intro q r a b hq hr e
    rcases key q a hq with ⟨rfl, rfl⟩ | ⟨rfl, rfl⟩ | ⟨hne, -, hq'⟩ <;> rcases key r b hr with ⟨rfl, rfl⟩ | ⟨rfl, rfl⟩ | ⟨hne2, -, hr'⟩
    · rfl
    · exact absurd e (by show ¬ w.heap.size = nd.blk; omega)
    · exact absurd (h.lt_blk hr') (by rw [← e]; exact Nat.lt_irrefl _)
    · exact absurd e (by show ¬ nd.blk = w.heap.size; omega)
    · rfl
    · exact h.blks _ _ _ _ hF hr' e
    · exact absurd (h.lt_blk hq') (by rw [e]; exact Nat.lt_irrefl _)
    · exact h.blks _ _ _ _ hq' hF e
    · exact h.blks _ _ _ _ hq' hr' e
  · intro q r a b m' hq hr ha hb'
    rcases key q a hq with ⟨rfl, rfl⟩ | ⟨rfl, rfl⟩ | ⟨hne, -, hq'⟩ <;> rcases key r b hr with ⟨rfl, rfl⟩ | ⟨rfl, rfl⟩ | ⟨hne2, -, hr'⟩
    · rfl
    · cases ha
    · cases ha
    · cases hb'
    · rfl
    · exact h.maps _ _ _ _ m' hF hr' (hm.trans ha) hb'
    · cases hb'
    · exact h.maps _ _ _ _ m' hq' hF ha (hm.trans hb')
    · exact h.maps _ _ _ _ m' hq' hr' ha hb'
  · intro q r a b x y k hq hr ha hb'
    rcases key q a hq with ⟨rfl, rfl⟩ | ⟨rfl, rfl⟩ | ⟨hne, -, hq'⟩ <;> rcases key r b hr with ⟨rfl, rfl⟩ | ⟨rfl, rfl⟩ | ⟨hne2, -, hr'⟩
    · simp [Value.ownBlock] at ha
    · simp [Value.ownBlock] at ha
    · simp [Value.ownBlock] at ha
    · simp [Value.ownBlock] at hb'
    · exact h.rows _ _ nd nd x y k hF hF ha hb'
    · exact h.rows _ _ nd b x y k hF hr' ha hb'
    · simp [Value.ownBlock] at hb'
    · exact h.rows _ _ a nd x y k hq' hF ha hb'
    · exact h.rows _ _ a b x y k hq' hr' ha hb'
  · intro q a t hq
    have hmap : ∀ r, r ≠ p ++ [s] → (put (put F p ⟨nd.blk, nd.row, some m, nd.D.put (.string s) (ptrD (some w.heap.size))⟩) (p ++ [s]) ⟨w.heap.size, fun _ => .slice none 0 0, none, .map []⟩ r).map Nd.blk = (F r).map Nd.blk := fun r hne => by
      rw [put_other _ _ _ _ hne]
      by_cases e : r = p
      · subst e; rw [put_same, hF]; rfl
      · rw [put_other _ _ _ _ e]
    rcases key q a hq with ⟨rfl, rfl⟩ | ⟨rfl, rfl⟩ | ⟨hne, hne2, hq'⟩
    · rw [hmap _ (fun e => by have := congrArg List.length e; simp at this), hdeep]
      rfl
    · have hM := (hn.map _ hm).2.2
      by_cases ht : t = s
      · subst ht
        rw [put_same]
        exact atKey_put_same hM (by trivial) _ _
      · have hne : q ++ [t] ≠ q ++ [s] := fun e => ht (by simpa using e)
        rw [hmap _ hne]
        have h1 := h.child q nd t hF
        rw [← h1, childOf, childOf, hm]
        exact atKey_put_other (fun e => ht (by simpa using e)) _ _
    · rw [hmap _ (fun e => hne (by simpa using (List.append_inj' e rfl).1))]
      exact h.child q a t hq'
  · obtain ⟨r, h1, h2⟩ := h.root
    rcases Classical.em (([] : List L) = p) with e | e
    · subst e
      rw [hF] at h1
      obtain rfl := Option.some.inj h1
      exact ⟨⟨nd.blk, nd.row, some m, nd.D.put (.string s) (ptrD (some w.heap.size))⟩, by rw [put_other _ _ _ _ (by simp)]; exact put_same .., h2⟩
    · exact ⟨r, by rw [put_other _ _ _ _ (by simp), put_other _ _ _ _ e]; exact h1, h2⟩
  · intro x hx
    have hne : x.path ≠ p ++ [s] := fun e => by have := h.pats x hx; rw [e, hpn] at this; cases this
    rw [put_other _ _ _ _ hne]
    by_cases e : x.path = p
    · rw [e, put_same]; rfl
    · rw [put_other _ _ _ _ e]; exact h.pats x hx
  · intro q t hs
    by_cases e0 : q = p ++ [s]
    · rw [e0, put_same]; rfl
    rw [put_other _ _ _ _ e0]
    by_cases e : q = p
    · rw [e, put_same]; rfl
    rw [put_other _ _ _ _ e]
    have hne : q ++ [t] ≠ p ++ [s] := fun e2 => e (by simpa using (List.append_inj' e2 rfl).1)
    rw [put_other _ _ _ _ hne] at hs
    by_cases e2 : q ++ [t] = p
    · exact h.up q t (by rw [e2, hF]; rfl)
    · rw [put_other _ _ _ _ e2] at hs
      exact h.up q t hs
/-- A row of a node gets one more. -/
theorem Inv.push (h : Inv w B K top F ps) (hF : F p = some nd) (b : Bool) (i : Int) (v1 : Value) (hB : B ≤ w.heap.size)
    (hR : (Kd.int .i64).R 3 w' B (fun _ => True) v1 (idsAt ps p b ++ [i])) (hg : w.grownBy w' (nd.row b).ownBlock) (hv : v1.ownBlock = (nd.row b).ownBlock ∨ ∃ k, v1.ownBlock = some k ∧ w.heap.size ≤ k) :
    Inv (w'.setCell ⟨nd.blk, if b then 1 else 0, none⟩ v1) B K top (put F p ⟨nd.blk, fun c => if c = b then v1 else nd.row c, nd.mv, nd.D⟩) (ps ++ [⟨p, b, i⟩]) := by
  have hlt := h.lt_blk hF
  have hn := h.node p nd hF
  have hb1 : w'.heap[nd.blk]? = some (.cells #[nd.row false, nd.row true, .map nd.mv] 73 (0, 0)) := (hg.block _ hlt (fun e => h.blk_row hF hF b e.symm)).trans hn.blk
  have hk2 : ∀ k, k < w'.heap.size → k ≠ nd.blk → (w'.setCell ⟨nd.blk, if b then 1 else 0, none⟩ v1).heap[k]? = w'.heap[k]? := fun k _ hne => Below.heap_setCell _ _ _ _ (by simpa using hne)
  -- another row than the one that is written
  have hrow : ∀ q nd' c, F q = some nd' → ¬ (q = p ∧ c = b) → (Kd.int .i64).R 3 (w'.setCell ⟨nd.blk, if b then 1 else 0, none⟩ v1) B (fun _ => True) (nd'.row c) (idsAt ps q c) := by
    intro q nd' c hq hne
    have h0 := (h.node q nd' hq).row c
    have h1 : (Kd.int .i64).R 3 w' B (fun _ => True) (nd'.row c) (idsAt ps q c) :=
      Kd.R_of_own (own_move (Kd.own_of_R h0) (fun k hk => hg.block k (h.lt_row hq hk) (fun e => hne (h.rows q p nd' nd c b k hq hF hk e.symm)))) (fun _ _ => trivial)
    exact R_only h1 hk2 (h.blk_row hF hq c)
  have hv1 : v1.ownBlock ≠ some nd.blk := by
    intro e
    obtain ⟨cs, h1⟩ := own_typed (Kd.own_of_R hR) _ e
    rw [hb1] at h1
    injection h1 with h1
    injection h1 with _ h1
    exact absurd h1 (by decide)
  have hmap : ∀ q nd', F q = some nd' → ∀ m, nd'.mv = some m → B ≤ m ∧ (w'.setCell ⟨nd.blk, if b then 1 else 0, none⟩ v1).ownsMap Tryd.prog 9 ptrElem m K nd'.D ∧ IsMap nd'.D := by
    intro q nd' hq m hm
    obtain ⟨h1, h2, h3⟩ := (h.node q nd' hq).map m hm
    refine ⟨h1, ?_, h3⟩
    have h4 : w'.ownsMap Tryd.prog 9 ptrElem m K nd'.D := h2.kept hg (fun e => h.map_row hq hm hF b e.symm)
    exact map_only h4 hk2 (fun e => h.blk_map hF hq (by rw [hm, e]))
  have hfresh : ∀ q nd' c k, F q = some nd' → ¬ (q = p ∧ c = b) → (nd'.row c).ownBlock = some k → v1.ownBlock ≠ some k := by
    intro q nd' c k hq hne hk e
    rcases hv with hv | ⟨k', hk', hle⟩
    · rw [hv] at e
      exact hne (h.rows q p nd' nd c b k hq hF hk e)
    · rw [hk'] at e
      obtain rfl := Option.some.inj e
      have := h.lt_row hq hk
      omega
  constructor
  · intro q nd' hq
    rcases put_cases hq with ⟨rfl, rfl⟩ | ⟨hne, hq'⟩
    · refine ⟨?_, hn.lo, fun c => ?_, hmap q nd hF⟩
      · cases b
        · exact blk_put hb1 0 v1 rfl
        · exact blk_put hb1 1 v1 rfl
      · by_cases e : c = b
        · subst e
          rw [idsAt_same]
          show (Kd.int .i64).R _ _ _ _ (if c = c then v1 else nd.row c) _
          rw [if_pos rfl]
          exact R_only hR hk2 hv1
        · rw [idsAt_other ps ⟨q, b, i⟩ q c (fun e2 => e e2.2.symm)]
          show (Kd.int .i64).R _ _ _ _ (if c = b then v1 else nd.row c) _
          rw [if_neg e]
          exact hrow q nd c hF (fun e2 => e e2.2)
    · refine ⟨(hk2 _ (by have := h.lt_blk hq'; have := hg.size; omega) (fun e => hne (h.blks q p nd' nd hq' hF e))).trans ((hg.block _ (h.lt_blk hq') (fun e => h.blk_row hq' hF b e.symm)).trans (h.node q nd' hq').blk), (h.node q nd' hq').lo, fun c => ?_, hmap q nd' hq'⟩
      rw [idsAt_other ps ⟨p, b, i⟩ q c (fun e2 => hne e2.1.symm)]
      exact hrow q nd' c hq' (fun e2 => hne e2.1)
  · intro q r a a' hq hr e
    rcases put_cases hq with ⟨rfl, rfl⟩ | ⟨hne, hq'⟩ <;> rcases put_cases hr with ⟨rfl, rfl⟩ | ⟨hne2, hr'⟩
    · rfl
    · exact h.blks _ _ _ _ hF hr' e
    · exact h.blks _ _ _ _ hq' hF e
    · exact h.blks _ _ _ _ hq' hr' e
  · intro q r a a' m hq hr ha hb'
    rcases put_cases hq with ⟨rfl, rfl⟩ | ⟨hne, hq'⟩ <;> rcases put_cases hr with ⟨rfl, rfl⟩ | ⟨hne2, hr'⟩
    · rfl
    · exact h.maps _ _ _ _ m hF hr' ha hb'
    · exact h.maps _ _ _ _ m hq' hF ha hb'
    · exact h.maps _ _ _ _ m hq' hr' ha hb'
  · intro q r a a' x y k hq hr ha hb'
    rcases put_cases hq with ⟨rfl, rfl⟩ | ⟨hne, hq'⟩ <;> rcases put_cases hr with ⟨rfl, rfl⟩ | ⟨hne2, hr'⟩
    · refine ⟨rfl, ?_⟩
      by_cases hx : x = b <;> by_cases hy : y = b
      · rw [hx, hy]
      · exact absurd (show v1.ownBlock = some k by simpa [hx] using ha) (hfresh _ nd y k hF (fun e => hy e.2) (by simpa [hy] using hb'))
      · exact absurd (show v1.ownBlock = some k by simpa [hy] using hb') (hfresh _ nd x k hF (fun e => hx e.2) (by simpa [hx] using ha))
      · exact (h.rows _ _ nd nd x y k hF hF (by simpa [hx] using ha) (by simpa [hy] using hb')).2
    · by_cases hx : x = b
      · exact absurd (show v1.ownBlock = some k by simpa [hx] using ha) (hfresh r a' y k hr' (fun e => hne2 e.1) hb')
      · exact h.rows _ _ nd a' x y k hF hr' (by simpa [hx] using ha) hb'
    · by_cases hy : y = b
      · exact absurd (show v1.ownBlock = some k by simpa [hy] using hb') (hfresh q a x k hq' (fun e => hne e.1) ha)
      · exact h.rows _ _ a nd x y k hq' hF ha (by simpa [hy] using hb')
    · exact h.rows _ _ a a' x y k hq' hr' ha hb'
  · intro q a s hq
    have hm2 : ∀ r, (put F p ⟨nd.blk, fun c => if c = b then v1 else nd.row c, nd.mv, nd.D⟩ r).map Nd.blk = (F r).map Nd.blk := fun r => by
      by_cases e : r = p
      · subst e; rw [put_same, hF]; rfl
      · rw [put_other _ _ _ _ e]
    rw [hm2]
    rcases put_cases hq with ⟨rfl, rfl⟩ | ⟨hne, hq'⟩
    · exact h.child q nd s hF
    · exact h.child q a s hq'
  · obtain ⟨r, h1, h2⟩ := h.root
    by_cases e : ([] : List L) = p
    · subst e
      rw [hF] at h1
      obtain rfl := Option.some.inj h1
      exact ⟨_, put_same .., h2⟩
    · exact ⟨r, by rw [put_other _ _ _ _ e]; exact h1, h2⟩
  · intro x hx
    by_cases e : x.path = p
    · rw [e, put_same]; rfl
    · rw [put_other _ _ _ _ e]
      rcases List.mem_append.1 hx with hx | hx
      · exact h.pats x hx
      · rw [List.mem_singleton.1 hx] at e
        exact absurd rfl e
  · intro q s hs
    by_cases e : q = p
    · rw [e, put_same]; rfl
    · rw [put_other _ _ _ _ e]
      by_cases e2 : q ++ [s] = p
      · exact h.up q s (by rw [e2, hF]; rfl)
      · rw [put_other _ _ _ _ e2] at hs
        exact h.up q s hs
end
end Go.Proofs.YtimaliamidgflaaDoor
