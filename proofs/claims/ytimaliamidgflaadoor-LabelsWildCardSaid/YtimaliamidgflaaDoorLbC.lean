/-
  Package labels: Add, by its contract.
-/
import Derived.Test.YtimaliamidgflaaDoorLbB
import Derived.WalkSpells
import Derived.Deep.DeepCutAuto
namespace Go.Proofs.YtimaliamidgflaaDoor
open Go.RowKit Go.Proofs.YtimaliamidgflaaDoorW.PrintWords Go.Maps
set_option linter.unusedVariables false
set_option linter.unusedSimpArgs false
set_option maxRecDepth 100000
set_option maxHeartbeats 1000000

/-- How a trie lies in memory: of some patterns. -/
def TrieAt (w : World) (B K tb : Nat) (ps : List Pat) : Prop :=
  ∃ top F, w.heap[tb]? = some (.cells #[.pointer (some ⟨top, 0, none⟩), .int .i64 (ps.length : Int)] 75 (0, 0)) ∧ B ≤ tb ∧ Inv w B K top F ps
theorem TrieAt.below {w w' : World} {B K tb : Nat} {ps : List Pat} (h : TrieAt w B K tb ps) (hb : Below w.heap.size w w') : TrieAt w' B K tb ps := by
  obtain ⟨top, F, h1, h2, h3⟩ := h
  exact ⟨top, F, (hb.block _ (heap_lt h1)).trans h1, h2, h3.below hb⟩
/-- Where Add stands, k labels down. -/
def AddAt (w w0 : World) (B K tb top n0 : Nat) (ps : List Pat) (path : List L) (A : Option Addr) (c k b : Nat) : Prop :=
  ∃ F nd, F (path.take k) = some nd ∧ nd.blk = b ∧ Inv w B (K + k) top F ps ∧ Below B w0 w ∧ w0.heap.size ≤ w.heap.size ∧ w.heap[tb]? = some (.cells #[.pointer (some ⟨top, 0, none⟩), .int .i64 (ps.length : Int)] 75 (0, 0)) ∧
    Kd.string.R 9 w n0 (fun _ => True) (.slice A path.length c) (path.map mkB)
/-- .. and the node there has a map. -/
def AddMap (w w0 : World) (B K tb top n0 : Nat) (ps : List Pat) (path : List L) (A : Option Addr) (c k b m : Nat) : Prop :=
  ∃ F nd, F (path.take k) = some nd ∧ nd.blk = b ∧ nd.mv = some m ∧ Inv w B (K + k) top F ps ∧ Below B w0 w ∧ w0.heap.size ≤ w.heap.size ∧ w.heap[tb]? = some (.cells #[.pointer (some ⟨top, 0, none⟩), .int .i64 (ps.length : Int)] 75 (0, 0)) ∧
    Kd.string.R 9 w n0 (fun _ => True) (.slice A path.length c) (path.map mkB)
/-- The node gets a map. -/
theorem AddAt.map {w w0 : World} {B K tb top n0 : Nat} {ps : List Pat} {path : List L} {A : Option Addr} {c k b : Nat} (hB : B ≤ w0.heap.size) (h : AddAt w w0 B K tb top n0 ps path A c k b) :
    ∃ r0 r1, ((∃ m, w.heap[b]? = some (.cells #[r0, r1, .map (some m)] 73 (0, 0)) ∧ AddMap w w0 B K tb top n0 ps path A c k b m) ∨
      (w.heap[b]? = some (.cells #[r0, r1, .map none] 73 (0, 0)) ∧ b < w.heap.size ∧ AddMap ((w.alloc (.map #[] 0)).setCell ⟨b, 2, none⟩ (.map (some w.heap.size))) w0 B K tb top n0 ps path A c k b w.heap.size)) := by
  obtain ⟨F, nd, hF, rfl, hI, hW, hsz, htb, hR⟩ := h
  have hb := (hI.node _ _ hF).blk
  have hlt := hI.lt_blk hF
  refine ⟨nd.row false, nd.row true, ?_⟩
  cases hm : nd.mv with
  | some m =>
    rw [hm] at hb
    exact .inl ⟨m, hb, F, nd, hF, rfl, hm, hI, hW, hsz, htb, hR⟩
  | none =>
    have hb' := hb
    rw [hm] at hb'
    have hBw : B ≤ w.heap.size := Nat.le_trans hB hsz
    have hbA : (w.alloc (.map #[] 0)).heap[nd.blk]? = some (.cells #[nd.row false, nd.row true, .map nd.mv] 73 (0, 0)) := (Below.heap_alloc _ _ _ hlt).trans hb
    have htne : tb ≠ nd.blk := fun e => by
      rw [e, hb] at htb
      injection htb with htb
      injection htb with _ h2
      exact absurd h2 (by decide)
    refine .inr ⟨hb', hlt, _, ⟨nd.blk, nd.row, some w.heap.size, .map []⟩, put_same .., rfl, rfl, hI.newmap hF hm hBw, (hW.alloc hBw _).setCell (hI.node _ _ hF).lo _, by simpa using Nat.le_succ_of_le hsz, ?_, Kd.R_set (Kd.R_below hR ((Below.refl _ _).alloc (Nat.le_refl _) _)) hbA (by decide) 2 _⟩
    exact (Below.heap_setCell _ _ _ _ (by simpa using htne)).trans ((Below.heap_alloc _ _ _ (heap_lt htb)).trans htb)
theorem zeroN (w : World) : (zeroValue 70).run Tryd.prog w = .ok (.pointer none) w := by kernel_rfl
theorem keyS (s : L) (h : s.length ≤ 9223372036854775807) : keyOf Tryd.prog 9 (.string (mkB s)) = some (.string s) := Go.WideMaps.keyOf_string_mk Tryd.underlying9 (by simpa [maxLen, mkB_size] using h)
theorem strs_only {w w' : World} {z n0 : Nat} {v : Value} {xs : List ByteArray} (h : Kd.string.R 9 w n0 (fun _ => True) v xs) (hk : ∀ k, k < w.heap.size → k ≠ z → w'.heap[k]? = w.heap[k]?) (hz : ∀ cs, w.heap[z]? ≠ some (.cells cs 9 (0, 0))) : Kd.string.R 9 w' n0 (fun _ => True) v xs :=
  Kd.R_of_own (own_move (Kd.own_of_R h) (fun k hv => hk k (own_lt (Kd.own_of_R h) k hv) (fun e => by
    obtain ⟨cs, hc⟩ := own_typed (Kd.own_of_R h) k hv
    exact hz cs (e ▸ hc)))) (fun _ _ => trivial)
/-- A step down: there is a node; there is none, and one is made. -/
theorem AddMap.step {w w0 : World} {B K tb top n0 : Nat} {ps : List Pat} {path : List L} {A : Option Addr} {c k b m : Nat} (hB : B ≤ w0.heap.size) (hk : k < path.length) (x : L) (hx : path.getD k [] = x) (hxl : x.length ≤ 9223372036854775807) (h : AddMap w w0 B K tb top n0 ps path A c k b m) :
    ∃ (r0 r1 : Value) (D : DataW Unit) (y : Option Nat), w.heap[b]? = some (.cells #[r0, r1, .map (some m)] 73 (0, 0)) ∧
      (Instr.lookup 71 (.map (some m)) (.string (mkB x)) false).run Tryd.prog w = .ok (ptrV y) w ∧
      (w.alloc (.cells #[.slice none 0 0, .slice none 0 0, .map none] 73)).ownsMap Tryd.prog 9 ptrElem m (K + k) D ∧
      (∀ b', y = some b' → AddAt w w0 B K tb top n0 ps path A c (k + 1) b') ∧
      (y = none → ∀ w', w'.ownsMap Tryd.prog 9 ptrElem m (K + k + 1) (D.put (.string x) (ptrD (some w.heap.size))) → (w.alloc (.cells #[.slice none 0 0, .slice none 0 0, .map none] 73)).grownBy w' (some m) → AddAt w' w0 B K tb top n0 ps path A c (k + 1) w.heap.size) := by
  obtain ⟨F, nd, hF, rfl, hm, hI, hW, hsz, htb, hR⟩ := h
  have hn := hI.node _ _ hF
  have hb := hn.blk
  rw [hm] at hb
  obtain ⟨hmB, hown, hIs⟩ := hn.map m hm
  have hts : path.take (k + 1) = path.take k ++ [x] := by rw [take_snoc path [] k hk, hx]
  have hch := hI.child _ _ x hF
  obtain ⟨y, hy⟩ : ∃ y, (F (path.take k ++ [x])).map Nd.blk = y := ⟨_, rfl⟩
  rw [hy] at hch
  have hat : nd.D.atKey (.string x) .nil = ptrD y := by rw [← hch, childOf, hm]
  obtain ⟨v, pl, hrun, hv⟩ := hown.lookup strKey Tryd.underlying71 (zeroN w) (zd := .nil) (zp := []) rfl (keyS x hxl)
  rw [hat] at hv
  obtain rfl := ptrElem_inv hv
  refine ⟨_, _, nd.D, y, hb, hrun, hown.alloc _, fun b' hb' => ?_, fun hy0 w' ho hg => ?_⟩
  · subst hb'
    obtain ⟨nd', h1, h2⟩ := Option.map_eq_some_iff.1 hy
    exact ⟨F, nd', by rw [hts]; exact h1, h2, hI.mono (by omega), hW, hsz, htb, hR⟩
  · subst hy0
    have hBw : B ≤ w.heap.size := Nat.le_trans hB hsz
    have hI' := hI.newchild hF hm x (by rw [hch]; rfl) hBw ho hg
    have hmm := hn.map_ty m hm
    obtain ⟨es, cl, hme⟩ := hmm
    have hkk : ∀ k, k < w.heap.size → k ≠ m → w'.heap[k]? = w.heap[k]? := fun k hk hne =>
      (hg.block k (by simp; omega) (fun e => hne (Option.some.inj e))).trans (Below.heap_alloc _ _ _ hk)
    refine ⟨_, _, by rw [hts]; exact put_same .., rfl, hI', (hW.alloc hBw _).grown hg (by simp; omega) (fun z hz => by obtain rfl := Option.some.inj hz; exact hmB), Nat.le_trans hsz (Nat.le_trans (by simp) hg.size), ?_, strs_only hR hkk (fun cs e => by rw [hme] at e; injection e with e; cases e)⟩
    exact (hkk tb (heap_lt htb) (fun e => by rw [e, hme] at htb; injection htb with htb; cases htb)).trans htb
/-- .. an int behind ints, and what it has written. -/
theorem app_intG {ops : Array Oper} {rest : List Oper} {o : Oper} {a : Act} {Q : Exit → Act → World → Prop} {w0 W : World} {base : Nat} {v : Value} {s x : Operand} (hgd : o.guard = none) (ho : o.op = .call { callee := .builtin .append, args := #[s, x], argTypes := #[37, 37] })
    (xs : List Int) (p : Int) (hs : a.eval s = v) (hx : a.eval x = .slice (some ⟨W.heap.size, 0, none⟩) 1 1) (HO : (Kd.int .i64).R 3 W base (fun _ => True) v xs) (HB : Below base w0 W) (hbase : base ≤ W.heap.size) (hl : (xs.length + 1) * 8 ≤ 140737488355328)
    (h : ∀ v1 w1, Kp ((Kd.int .i64).R 3 w1 base (fun _ => True) v1 (xs ++ [p])) → Kp (Below base w0 w1) → Kp (W.grownBy w1 v.ownBlock) → Kp (v1.ownBlock = v.ownBlock ∨ ∃ k, v1.ownBlock = some k ∧ W.heap.size ≤ k) → wpList Tryd.prog ops Q rest (a.put o.dst v1) w1) :
    wpList Tryd.prog ops Q (o :: rest) a (W.alloc (.cells #[.int .i64 p] 3)) :=
  Kd.R_append (w0 := w0) (Kd.int .i64) base hgd s x 37 3 (.int .i64 0) 8 ho Tryd.underlying37 (by kernel_rfl) rfl (by decide) (by decide) v xs p [.int .i64 p] (fun _ => True) (fun _ => False) hs hx rfl (fun _ h => h.elim) (fun _ _ => trivial) HO HB hbase (by omega)
    (fun v1 w1 h1 h2 h3 h4 => h v1 w1 ⟨h1⟩ ⟨h2⟩ ⟨h3⟩ ⟨h4⟩)
theorem add_calls (tb B K : Nat) (ps : List Pat) (s : ByteArray) (wild : Bool) (id : Int) (w : World) (hT : TrieAt w B K tb ps) (hE : EnvM w) (hB : B ≤ w.heap.size) (hs : s.size ≤ 10000) (hK : K ≤ 1000000000) (hn : ps.length ≤ 1000000) :
    Calls Tryd.prog 17 #[.pointer (some ⟨tb, 0, none⟩), .string s, .bool wild, .int .i64 id] w fun e w' => e = .returned (.tuple #[]) ∧ TrieAt w' B (K + (pathOf s.data.toList).length) tb (ps ++ [⟨pathOf s.data.toList, wild, id⟩]) ∧ Below B w w' := by
  obtain ⟨top, F, htb, htlo, hI⟩ := hT
  have HS := Kp.mk (StM.start hE)
  have HW := Kp.mk (way_calls s w hE (by omega))
  obtain ⟨path, hp⟩ : ∃ path, pathOf s.data.toList = path := ⟨_, rfl⟩
  rw [hp] at HW ⊢
  have hpl : path.length ≤ 10001 := by
    have h1 := labels_few s.data.toList
    have h2 : s.data.toList.length = s.size := data_length s
    rw [← hp, pathOf, List.length_reverse]
    omega
  have HXL : Kp (∀ k, k < path.length → (path.getD k []).length ≤ 10001) := ⟨fun k hk => by
    have h0 : ∀ y ∈ path, y ∈ labelsOf s.data.toList := by
      rw [← hp]
      intro y hy
      exact List.mem_reverse.1 hy
    have h1 := h0 _ (getD_mem path [] k hk)
    have h2 := mem_sz h1
    have h3 := labels_sz s.data.toList
    have h4 : s.data.toList.length = s.size := data_length s
    split at h3 <;> omega⟩
  obtain ⟨nd0, hF0, hb0⟩ := hI.root
  have HTB := Kp.mk htb
  have HI := Kp.mk hI
  have c0 := blk_cell htb 0
  have hmm := @run_makeMap Tryd.prog
  have qm : ∀ (w : World) (r : Option Nat), (binOp .eql 71 (.map r) (.map none)).run Tryd.prog w = .ok (.bool r.isNone) w := fun w r => run_eql_map_nil w _ _ _ r Tryd.underlying71
  have HA0 : Kp (AddAt w w B K tb top w.heap.size ps [] none 0 0 top) := ⟨⟨F, nd0, hF0, hb0, hI, Below.refl _ _, Nat.le_refl _, htb, Kd.R_nil _ _ _ _ _⟩⟩
  have HF0 := Kp.mk hF0
  have HB0 := Kp.mk hb0
  clear htb hI hE hp hF0 hb0
  go_enter Tryd.func17, Tryd.ntmps17
  go_wp2_with (fail)
  refine gsM_ HW.out HS ?_
  intro A c w1 hc hcm HC HM HB1 HS1
  rw [List.length_map] at *
  have hRl : Kd.string.R 9 w1 w.heap.size (fun _ => True) (.slice A path.length c) (path.map mkB) := by
    obtain ⟨v, hv, hR⟩ := HM.out
    obtain rfl := List.singleton_inj.1 hv
    exact hR
  have HA1 : Kp (AddAt w1 w B K tb top w.heap.size ps path A c 0 top) := ⟨⟨F, nd0, HF0.out, HB0.out, HI.out.below HB1.out, HB1.out.mono hB, HB1.out.size, (HB1.out.block _ (heap_lt HTB.out)).trans HTB.out, hRl⟩⟩
  clear hRl
  go_wp2_with (fail)
  go_loopw [8, 22] (fun x i wr => ∃ k b : Nat, k ≤ path.length ∧ i = .int .i64 k ∧ x = .pointer (some ⟨b, 0, none⟩) ∧ Kp (AddAt wr w B K tb top w.heap.size ps path A c k b)) (fun _ i _ => path.length - (intOf i).toNat)
  case atStart => exact ⟨0, top, Nat.zero_le _, rfl, rfl, HA1⟩
  case round =>
    obtain ⟨k, b, hk, rfl, rfl, HA⟩ := hrel
    by_cases hlt : k < path.length
    · obtain ⟨x, hx⟩ : ∃ x, path.getD k [] = x := ⟨_, rfl⟩
      obtain ⟨ad, rfl, hcell⟩ : ∃ ad, A = some ad ∧ wr.cell? (ad.add k) = some (.string (mkB x)) := by
        obtain ⟨F', nd, -, -, -, -, -, -, hR⟩ := HA.out
        obtain ⟨ad, e, h⟩ := at_natS (R_C hR).1 k hlt
        refine ⟨ad, e, ?_⟩
        rw [h, ← hx]
        simp [List.getD_eq_getElem?_getD, hlt]
      have hxl : x.length ≤ 9223372036854775807 := by
        have := HXL.out k hlt
        rw [hx] at this
        omega
      have HX := Kp.mk hx
      obtain ⟨r0, r1, hcase⟩ := HA.out.map hB
      have HCASE := Kp.mk hcase
      obtain ⟨mv, hmv⟩ : ∃ mv, wr.heap[b]? = some (.cells #[r0, r1, .map mv] 73 (0, 0)) := by
        rcases hcase with ⟨m, h, -⟩ | ⟨h, -⟩
        · exact ⟨_, h⟩
        · exact ⟨_, h⟩
      have x2 := blk_cell hmv 2
      have y2 := blk_frozen hmv 2
      have HMV := Kp.mk hmv
      have hbl0 := heap_lt hmv
      clear hcase hmv hx
      go_upto_if 30 with (fail)
      go_cut [] (fun wx => ∃ m, Kp (AddMap wx w B K tb top w.heap.size ps path (some ad) c k b m))
      case first =>
        cases mv with
        | some m =>
          go_wp2
          go_meet
          rcases HCASE.out with ⟨m', h, h2⟩ | ⟨h, -⟩
          · exact ⟨m', ⟨h2⟩⟩
          · rw [HMV.out] at h
            injection h with h
            injection h with h
            simp at h
        | none =>
          go_wp2
          go_meet
          rcases HCASE.out with ⟨m', h, h2⟩ | ⟨h, -, h2⟩
          · rw [HMV.out] at h
            injection h with h
            injection h with h
            simp at h
          · rw [World.setCell_alloc_past _ _ _ _ hbl0] at h2
            exact ⟨_, ⟨h2⟩⟩
      case rest =>
        obtain ⟨m, HM2⟩ := hcut
        clear x2 y2 HCASE HMV
        obtain ⟨r0, r1, D, y, hbk, hrun, hown, hyes, hno⟩ := HM2.out.step hB hlt x HX.out hxl
        have HY := Kp.mk hyes
        have HN := Kp.mk hno
        have HO := Kp.mk hown
        have x2 := blk_cell hbk 2
        have hbl := heap_lt hbk
        clear hbk hyes hno hown
        cases y with
        | some b' =>
          simp only [ptrV] at hrun
          go_wp2
          exact ⟨⟨k + 1, b', by omega, by go_num, rfl, ⟨HY.out b' rfl⟩⟩, by simp [intOf]; omega⟩
        | none =>
          have HN1 := Kp.mk (HN.out rfl)
          clear HN
          simp only [ptrV] at hrun
          go_wp2_with (at_mapUpdate; go_must (refine wpList_mapUpdate_own _ rfl _ _ _ 71 rfl 9 70 strKey Tryd.underlying71 ptrElem m (K + k) D rfl HO.out (by unfold maxLen; omega) _ _ (.string x) rfl rfl (keyS x hxl) (ptrD (some _)) [] rfl ?_))
          intro w2 ho2 hg2
          have HA2 := Kp.mk (HN1.out w2 ho2 hg2)
          clear ho2 hg2
          go_wp2
          exact ⟨⟨k + 1, _, by omega, by go_num, rfl, HA2⟩, by simp [intOf]; omega⟩
    · obtain rfl : k = path.length := by omega
      obtain ⟨F', nd, hF, rfl, hI, hW, hsz, htb, -⟩ := HA.out
      rw [List.take_length] at hF
      have hn1 := hI.node _ _ hF
      have hbt : nd.blk ≠ tb := fun e => by
        have h1 := hn1.blk
        rw [e, htb] at h1
        injection h1 with h1
        injection h1 with _ h2
        exact absurd h2 (by decide)
      have z1 := blk_cell htb 1
      have z2 := blk_frozen htb 1
      -- behind the count
      have htb2 := blk_put htb 1 (.int .i64 ((ps.length : Int) + 1)) (cs' := #[.pointer (some ⟨top, 0, none⟩), .int .i64 ((ps.length : Int) + 1)]) rfl
      have hI2 := hI.count htb (v := .int .i64 ((ps.length : Int) + 1)) 1
      have hn2 := hI2.node _ _ hF
      have HI2 := Kp.mk hI2
      have HF := Kp.mk hF
      have HTB2 := Kp.mk htb2
      have HW2 := Kp.mk (hW.setCell (p := ⟨tb, 1, none⟩) htlo (.int .i64 ((ps.length : Int) + 1)))
      have hsz2 : B ≤ (wr.setCell ⟨tb, 1, none⟩ (.int .i64 ((ps.length : Int) + 1))).heap.size := by simp; omega
      have hbl := hI.lt_blk hF
      have q0 := blk_cell hn2.blk 0
      have q1 := blk_cell hn2.blk 1
      have p0 := blk_frozen hn2.blk 0
      have p1 := blk_frozen hn2.blk 1
      have hl0 := idsAt_len ps path wild
      have hl1 : ((idsAt ps path wild).length + 1) * 8 ≤ 140737488355328 := by omega
      have HR := Kp.mk (hn2.row wild)
      have HLO := Kp.mk hn2.lo
      have hpn : (ps.length : Int) ≤ 1000000 := by omega
      clear hF hI hW htb htb2 hI2 hn2 hn1
      have HBT := Kp.mk hbt
      clear hbt
      cases wild
      · go_wp2_with (at_builtin; with_reducible refine gate_builtin (b := .append) (xs := #[.tmp 72, .tmp 74]) rfl ?_; go_must (refine app_intG (w0 := w) (s := .tmp 72) (x := .tmp 74) (v := nd.row false) (base := B) rfl rfl (idsAt ps path false) id rfl (by simp [go_sem]) HR.out HW2.out hsz2 hl1 ?_))
        intro v1 w3 HR3 HB3 HG3 HV3
        obtain ⟨A1, c1, hv1⟩ := Kd.R_slice HR3.out
        obtain ⟨n1, hn1⟩ : ∃ n, (idsAt ps path false ++ [id]).length = n := ⟨_, rfl⟩
        rw [hn1] at hv1
        subst hv1
        clear hn1
        have hn2 := HI2.out.node _ _ HF.out
        have hb3 := (HG3.out.block _ (heap_lt hn2.blk) (fun e => HI2.out.blk_row HF.out HF.out false e.symm)).trans hn2.blk
        have w0' := blk_cell hb3 0
        have w1' := blk_frozen hb3 0
        have ht3 := (HG3.out.block _ (heap_lt HTB2.out) (fun e => by
          obtain ⟨cs, hc⟩ := hn2.row_ty false _ e.symm
          rw [HTB2.out] at hc
          injection hc with hc
          injection hc with _ h2
          exact absurd h2 (by decide))).trans HTB2.out
        have HP := Kp.mk (HI2.out.push HF.out false id _ hsz2 HR3.out HG3.out (by simpa using HV3.out))
        have HT3 : Kp ((w3.setCell ⟨nd.blk, 0, none⟩ (.slice A1 n1 c1)).heap[tb]? = some (.cells #[.pointer (some ⟨top, 0, none⟩), .int .i64 ((ps.length : Int) + 1)] 75 (0, 0))) := ⟨blk_far ht3 (by simpa using HBT.out.symm) _⟩
        clear hb3 ht3 hn2
        go_wp2
        go_returns
        refine ⟨rfl, ⟨top, _, ?_, htlo, HP.out⟩, HB3.out.setCell HLO.out _⟩
        rw [List.length_append, List.length_singleton, Int.natCast_add]
        exact HT3.out
      · go_wp2_with (at_builtin; with_reducible refine gate_builtin (b := .append) (xs := #[.tmp 72, .tmp 74]) rfl ?_; go_must (refine app_intG (w0 := w) (s := .tmp 72) (x := .tmp 74) (v := nd.row true) (base := B) rfl rfl (idsAt ps path true) id rfl (by simp [go_sem]) HR.out HW2.out hsz2 hl1 ?_))
        intro v1 w3 HR3 HB3 HG3 HV3
        obtain ⟨A1, c1, hv1⟩ := Kd.R_slice HR3.out
        obtain ⟨n1, hn1⟩ : ∃ n, (idsAt ps path true ++ [id]).length = n := ⟨_, rfl⟩
        rw [hn1] at hv1
        subst hv1
        clear hn1
        have hn2 := HI2.out.node _ _ HF.out
        have hb3 := (HG3.out.block _ (heap_lt hn2.blk) (fun e => HI2.out.blk_row HF.out HF.out true e.symm)).trans hn2.blk
        have w0' := blk_cell hb3 1
        have w1' := blk_frozen hb3 1
        have ht3 := (HG3.out.block _ (heap_lt HTB2.out) (fun e => by
          obtain ⟨cs, hc⟩ := hn2.row_ty true _ e.symm
          rw [HTB2.out] at hc
          injection hc with hc
          injection hc with _ h2
          exact absurd h2 (by decide))).trans HTB2.out
        have HP := Kp.mk (HI2.out.push HF.out true id _ hsz2 HR3.out HG3.out (by simpa using HV3.out))
        have HT3 : Kp ((w3.setCell ⟨nd.blk, 1, none⟩ (.slice A1 n1 c1)).heap[tb]? = some (.cells #[.pointer (some ⟨top, 0, none⟩), .int .i64 ((ps.length : Int) + 1)] 75 (0, 0))) := ⟨blk_far ht3 (by simpa using HBT.out.symm) _⟩
        clear hb3 ht3 hn2
        go_wp2
        go_returns
        refine ⟨rfl, ⟨top, _, ?_, htlo, HP.out⟩, HB3.out.setCell HLO.out _⟩
        rw [List.length_append, List.length_singleton, Int.natCast_add]
        exact HT3.out
end Go.Proofs.YtimaliamidgflaaDoor
