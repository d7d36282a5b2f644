/-
  Package labels: Match, by its contract.
-/
import Derived.Test.YtimaliamidgflaaDoorLbC
import Derived.Test.YtimaliamidgflaaDoorCatI
import Derived.Test.YtimaliamidgflaaDoorRevR
import Derived.Test.YtimaliamidgflaaDoorCloneI
import Derived.Maps.OwnSet
namespace Go.Proofs.YtimaliamidgflaaDoor
open Go.RowKit Go.Proofs.YtimaliamidgflaaDoorW.PrintWords Go.Maps
set_option linter.unusedVariables false
set_option linter.unusedSimpArgs false
set_option maxRecDepth 100000
set_option maxHeartbeats 1000000

/-- What stands for a name, out of patterns in the order in which they were added. -/
def wildsF (ps : List Pat) (path : List L) (k : Nat) : List (List Int) := (List.range k).map fun j => idsAt ps (path.take j) true
def matchF (ps : List Pat) (path : List L) : List Int := idsAt ps path false ++ (wildsF ps path path.length).reverse.flatten
/-- Slices in a row, and what they lead to. -/
def RawOf (w : World) (raws : List (Option Addr × Nat × Nat)) (xss : List (List Int)) : Prop :=
  raws.length = xss.length ∧ ∀ (j : Nat) r x, raws[j]? = some r → xss[j]? = some x → r.2.1 = x.length ∧ x.length ≤ r.2.2 ∧ (Kd.int .i64).C w r.1 x.length x
theorem RawOf.below {w w' : World} {raws : List (Option Addr × Nat × Nat)} {xss : List (List Int)} (h : RawOf w raws xss) (hb : Below w.heap.size w w') : RawOf w' raws xss :=
  ⟨h.1, fun j r x h1 h2 => ⟨(h.2 j r x h1 h2).1, (h.2 j r x h1 h2).2.1, Kd.C_below (h.2 j r x h1 h2).2.2 hb⟩⟩
theorem RawOf.snoc {w : World} {raws : List (Option Addr × Nat × Nat)} {xss : List (List Int)} (h : RawOf w raws xss) {A : Option Addr} {c : Nat} {x : List Int} (hc : x.length ≤ c) (hC : (Kd.int .i64).C w A x.length x) : RawOf w (raws ++ [(A, x.length, c)]) (xss ++ [x]) := by
  obtain ⟨hl, hr⟩ := h
  refine ⟨by simp [hl], fun j r y h1 h2 => ?_⟩
  by_cases hj : j < raws.length
  · rw [List.getElem?_append_left hj] at h1
    rw [List.getElem?_append_left (by omega)] at h2
    exact hr j r y h1 h2
  · have hj2 : j = raws.length := by
      have := (List.getElem?_eq_some_iff.1 h1).1
      simp at this
      omega
    subst hj2
    rw [List.getElem?_append_right (Nat.le_refl _), Nat.sub_self] at h1
    rw [hl, List.getElem?_append_right (Nat.le_refl _), Nat.sub_self] at h2
    obtain rfl := Option.some.inj h1
    obtain rfl := Option.some.inj h2
    exact ⟨rfl, hc, hC⟩
theorem RawOf.reverse {w : World} {raws : List (Option Addr × Nat × Nat)} {xss : List (List Int)} (h : RawOf w raws xss) : RawOf w raws.reverse xss.reverse := by
  obtain ⟨hl, hr⟩ := h
  refine ⟨by simp [hl], fun j r y h1 h2 => ?_⟩
  have hj : j < raws.length := by
    have := (List.getElem?_eq_some_iff.1 h1).1
    simpa using this
  rw [List.getElem?_reverse hj] at h1
  rw [List.getElem?_reverse (by omega)] at h2
  exact hr _ r y h1 (by rw [hl]; exact h2)
theorem RawOf.C {w : World} {raws : List (Option Addr × Nat × Nat)} {xss : List (List Int)} (h : RawOf w raws xss) {A : Option Addr} {n : Nat} (hC : rawK.C w A n raws) : (Kd.slice 3 (Kd.int .i64)).C w A n xss := by
  obtain ⟨hl, hr⟩ := h
  obtain ⟨h1, h2, h3⟩ := hC
  refine ⟨by omega, h2, fun hn => ?_⟩
  obtain ⟨ad, e, h4⟩ := h3 hn
  refine ⟨ad, e, fun j x hx => ?_⟩
  have hj : j < raws.length := by
    have := (List.getElem?_eq_some_iff.1 hx).1
    omega
  obtain ⟨c, hc1, hc2, hc3⟩ := h4 j _ (List.getElem?_eq_getElem hj)
  obtain ⟨e1, e2, e3⟩ := hr j _ x (List.getElem?_eq_getElem hj) hx
  refine ⟨c, hc1, ⟨(raws[j]).1, (raws[j]).2.2, ?_, e2, e3⟩, hc3⟩
  rw [← e1]
  exact hc2
theorem look_none (w : World) (key : Value) (s : L) (h : keyOf Tryd.prog 9 key = some (.string s)) : (Instr.lookup 71 (.map none) key false).run Tryd.prog w = .ok (.pointer none) w :=
  Maps.look_nil (w := w) false strKey Tryd.underlying71 (zeroN w) h
/-- Where Match stands. -/
def MatchAt (w : World) (F : List L → Option Nd) (p : List L) (b : Nat) : Prop :=
  (∃ nd, F p = some nd ∧ nd.blk = b) ∨ (F p = none ∧ w.heap[b]? = some (.cells #[.slice none 0 0, .slice none 0 0, .map none] 73 (0, 0)))
theorem MatchAt.below {w w' : World} {F : List L → Option Nd} {p : List L} {b : Nat} (h : MatchAt w F p b) (hb : Below w.heap.size w w') : MatchAt w' F p b := by
  rcases h with h | ⟨h1, h2⟩
  · exact .inl h
  · exact .inr ⟨h1, (hb.block _ (heap_lt h2)).trans h2⟩
theorem MatchAt.open_ {w : World} {B K top : Nat} {F : List L → Option Nd} {ps : List Pat} {p : List L} {b : Nat} (h : MatchAt w F p b) (hI : Inv w B K top F ps) :
    ∃ A0 c0 A1 c1 mv, w.heap[b]? = some (.cells #[.slice A0 (idsAt ps p false).length c0, .slice A1 (idsAt ps p true).length c1, .map mv] 73 (0, 0)) ∧
      (∀ W K', Inv W B K' top F ps → (Kd.int .i64).C W A0 (idsAt ps p false).length (idsAt ps p false) ∧ (Kd.int .i64).C W A1 (idsAt ps p true).length (idsAt ps p true)) ∧ (idsAt ps p true).length ≤ c1 ∧
      ∀ x : L, x.length ≤ 9223372036854775807 → ∃ y : Option Nat, (Instr.lookup 71 (.map mv) (.string (mkB x)) false).run Tryd.prog w = .ok (ptrV y) w ∧ (∀ b', y = some b' → MatchAt w F (p ++ [x]) b') ∧ (y = none → F (p ++ [x]) = none) := by
  rcases h with ⟨nd, hF, rfl⟩ | ⟨hF, hb⟩
  · have hn := hI.node p nd hF
    obtain ⟨A0, c0, e0⟩ := Kd.R_slice (hn.row false)
    obtain ⟨A1, c1, e1⟩ := Kd.R_slice (hn.row true)
    have r0 := hn.row false
    have r1 := hn.row true
    have hb := hn.blk
    rw [e0] at r0 hb
    rw [e1] at r1 hb
    refine ⟨A0, c0, A1, c1, nd.mv, hb, fun W K' hW => ?_, (R_C r1).2, fun x hx => ?_⟩
    · have s0 := (hW.node p nd hF).row false
      have s1 := (hW.node p nd hF).row true
      rw [e0] at s0
      rw [e1] at s1
      exact ⟨(R_C s0).1, (R_C s1).1⟩
    have hch := hI.child p nd x hF
    obtain ⟨y, hy⟩ : ∃ y, (F (p ++ [x])).map Nd.blk = y := ⟨_, rfl⟩
    rw [hy] at hch
    refine ⟨y, ?_, fun b' hb' => ?_, fun h0 => ?_⟩
    · cases hm : nd.mv with
      | none =>
        rw [childOf, hm] at hch
        obtain rfl : none = y := ptrD_inj hch
        exact look_none w _ x (keyS x hx)
      | some m =>
        obtain ⟨-, hown, -⟩ := hn.map m hm
        have hat : nd.D.atKey (.string x) .nil = ptrD y := by rw [← hch, childOf, hm]
        obtain ⟨v, pl, hrun, hv⟩ := hown.lookup strKey Tryd.underlying71 (zeroN w) (zd := .nil) (zp := []) rfl (keyS x hx)
        rw [hat] at hv
        obtain rfl := ptrElem_inv hv
        exact hrun
    · subst hb'
      obtain ⟨nd', h1, h2⟩ := Option.map_eq_some_iff.1 hy
      exact .inl ⟨nd', h1, h2⟩
    · subst h0
      simpa using hy
  · have hno : ∀ b, idsAt ps p b = [] := fun b => idsAt_none ps p b (fun x hx e => by have := hI.pats x hx; rw [e, hF] at this; cases this)
    refine ⟨none, 0, none, 0, none, by rw [hno, hno]; exact hb, fun W K' hW => by rw [hno, hno]; exact ⟨⟨rfl, by simp, fun h => by simp at h⟩, ⟨rfl, by simp, fun h => by simp at h⟩⟩, by rw [hno]; exact Nat.le_refl _, fun x hx => ⟨none, look_none w _ x (keyS x hx), (fun b' hb' => by cases hb'), fun _ => ?_⟩⟩
    cases h2 : F (p ++ [x]) with
    | none => rfl
    | some y =>
      have := hI.up p x (by rw [h2]; rfl)
      rw [hF] at this
      cases this
theorem MatchAt.grown {w w' : World} {F : List L → Option Nd} {p : List L} {b base : Nat} {v : Value} {raws : List (Option Addr × Nat × Nat)} (h : MatchAt w F p b) (hR : rawK.R 37 w base (fun _ => True) v raws) (hg : w.grownBy w' v.ownBlock) : MatchAt w' F p b := by
  rcases h with h | ⟨h1, h2⟩
  · exact .inl h
  · refine .inr ⟨h1, (hg.block _ (heap_lt h2) (fun e => ?_)).trans h2⟩
    obtain ⟨cs, hc⟩ := own_typed (Kd.own_of_R hR) b e.symm
    rw [h2] at hc
    injection hc with hc
    injection hc with _ h3
    exact absurd h3 (by decide)
theorem app_raw {ops : Array Oper} {rest : List Oper} {o : Oper} {a : Act} {Q : Exit → Act → World → Prop} {w0 W : World} {base : Nat} {v : Value} {s x : Operand} (hgd : o.guard = none) (ho : o.op = .call { callee := .builtin .append, args := #[s, x], argTypes := #[78, 78] })
    (xs : List (Option Addr × Nat × Nat)) (A : Option Addr) (n c : Nat) (hs : a.eval s = v) (hx : a.eval x = .slice (some ⟨W.heap.size, 0, none⟩) 1 1) (HO : rawK.R 37 W base (fun _ => True) v xs) (HB : Below base w0 W) (hbase : base ≤ W.heap.size) (hl : (xs.length + 1) * 24 ≤ 140737488355328)
    (h : ∀ v1 w1, Kp (rawK.R 37 w1 base (fun _ => True) v1 (xs ++ [(A, n, c)])) → Kp (Below base w0 w1) → Kp (W.grownBy w1 v.ownBlock) → wpList Tryd.prog ops Q rest (a.put o.dst v1) w1) :
    wpList Tryd.prog ops Q (o :: rest) a (W.alloc (.cells #[.slice A n c] 37)) :=
  Kd.R_append (w0 := w0) rawK base hgd s x 78 37 (.slice none 0 0) 24 ho Tryd.underlying78 (by kernel_rfl) rfl (by decide) (by decide) v xs (A, n, c) [.slice A n c] (fun _ => True) (fun _ => False) hs hx rfl (fun _ h => h.elim) (fun _ _ => trivial) HO HB hbase (by omega)
    (fun v1 w1 h1 h2 h3 _ => h v1 w1 ⟨h1⟩ ⟨h2⟩ ⟨h3⟩)
theorem wilds_len (ps : List Pat) (path : List L) (k : Nat) : (wildsF ps path k).length = k := by simp [wildsF]
theorem wilds_succ (ps : List Pat) (path : List L) (k : Nat) : wildsF ps path (k + 1) = wildsF ps path k ++ [idsAt ps (path.take k) true] := by simp [wildsF, List.range_succ]
theorem flat_le (ls : List (List Int)) (n : Nat) (h : ∀ x ∈ ls, x.length ≤ n) : ls.flatten.length ≤ ls.length * n := by
  induction ls with
  | nil => simp
  | cons x ls ih =>
    have h1 := h x (by simp)
    have h2 := ih (fun y hy => h y (by simp [hy]))
    simp only [List.flatten_cons, List.length_append, List.length_cons, Nat.succ_mul]
    omega
theorem wilds_flat (ps : List Pat) (path : List L) (k : Nat) : ((wildsF ps path k).reverse.flatten).length ≤ k * ps.length := by
  have h := flat_le (wildsF ps path k).reverse ps.length (fun x hx => by
    rw [List.mem_reverse, wildsF] at hx
    obtain ⟨j, -, rfl⟩ := List.mem_map.1 hx
    exact idsAt_len ..)
  rw [List.length_reverse, wilds_len] at h
  exact h
theorem reverseR_none (A : Option Addr) (c : Nat) (w : World) : Calls Tryd.prog 39 #[.slice A 0 c] w fun e w' => e = .returned (.tuple #[]) ∧ w = w' := by
  go_enter Tryd.func39, Tryd.ntmps39
  go_wp2_with (fail)
  refine wp_loop_rounds 1 ?_
  rw [rounds_succ]
  go_wp2
  go_returns
  exact ⟨rfl, rfl⟩
theorem match_calls (tb B K : Nat) (ps : List Pat) (s : ByteArray) (w : World) (hT : TrieAt w B K tb ps) (hE : EnvM w) (hs : s.size ≤ 10000) (hn : ps.length ≤ 1000000) :
    Calls Tryd.prog 19 #[.pointer (some ⟨tb, 0, none⟩), .string s] w (Gives intsK (matchF ps (pathOf s.data.toList)) w) := by
  obtain ⟨top, F, htb, htlo, hI⟩ := hT
  have HS := Kp.mk (StM.start hE)
  have HW := Kp.mk (way_calls s w hE (by omega))
  obtain ⟨path, hp⟩ : ∃ path, pathOf s.data.toList = path := ⟨_, rfl⟩
  rw [hp] at HW ⊢
  have hpl : path.length ≤ 10001 := by
    have h1 := labels_few s.data.toList
    have h2 : s.data.toList.length = s.size := data_length s
    rw [← hp, pathOf, List.length_reverse]
    omega
  have HXL : Kp (∀ k, k < path.length → (path.getD k []).length ≤ 10001) := ⟨fun k hk => by
    have h0 : ∀ y ∈ path, y ∈ labelsOf s.data.toList := by
      rw [← hp]
      intro y hy
      exact List.mem_reverse.1 hy
    have h1 := h0 _ (getD_mem path [] k hk)
    have h2 := mem_sz h1
    have h3 := labels_sz s.data.toList
    have h4 : s.data.toList.length = s.size := data_length s
    split at h3 <;> omega⟩
  obtain ⟨nd0, hF0, hb0⟩ := hI.root
  have HTB := Kp.mk htb
  have HI := Kp.mk hI
  have HF0 := Kp.mk hF0
  have HB0 := Kp.mk hb0
  clear htb hI hE hp hF0 hb0
  go_enter Tryd.func19, Tryd.ntmps19
  go_wp2_with (fail)
  refine gsM_ HW.out HS ?_
  intro A c w1 hc hcm HC HM HB1 HS1
  rw [List.length_map] at *
  have c0 := blk_cell ((HB1.out.block _ (heap_lt HTB.out)).trans HTB.out) 0
  go_wp2_with (fail)
  have hsz1 := HS1.out.size
  have HI1 := Kp.mk (HI.out.below HS1.out.below)
  go_loopw [6, 7, 21] (fun v x i wr => ∃ (k b : Nat) (raws : List (Option Addr × Nat × Nat)), k ≤ path.length ∧ i = .int .i64 k ∧ x = .pointer (some ⟨b, 0, none⟩) ∧ Kp (Below w1.heap.size w1 wr) ∧ Kp (rawK.R 37 wr w1.heap.size (fun _ => True) v raws) ∧ Kp (RawOf w1 raws (wildsF ps path k)) ∧ Kp (MatchAt wr F (path.take k) b)) (fun _ _ i _ => path.length - (intOf i).toNat)
  case atStart => exact ⟨0, top, [], Nat.zero_le _, rfl, rfl, ⟨Below.refl _ _⟩, ⟨Kd.R_nil _ _ _ _ _⟩, ⟨⟨rfl, fun j r x h => by cases h⟩⟩, ⟨.inl ⟨nd0, HF0.out, HB0.out⟩⟩⟩
  case round =>
    obtain ⟨k, b, raws, hk, rfl, rfl, HWr, HR, HRW, HMA⟩ := hrel
    have HIr := Kp.mk (HI.out.below (HS1.out.step HWr.out).below)
    have hrl : raws.length = k := by rw [HRW.out.1, wilds_len]
    obtain ⟨A0, c00, A1, c11, mv, hbk, hCC, hc11, hlook⟩ := HMA.out.open_ HIr.out
    by_cases hlt : k < path.length
    · obtain ⟨x, hx⟩ : ∃ x, path.getD k [] = x := ⟨_, rfl⟩
      obtain ⟨ad, rfl, hcell⟩ : ∃ ad, A = some ad ∧ wr.cell? (ad.add k) = some (.string (mkB x)) := by
        obtain ⟨ad, e, h⟩ := at_natS (Kd.C_below HC.out HWr.out) k hlt
        refine ⟨ad, e, ?_⟩
        rw [h, ← hx]
        simp [List.getD_eq_getElem?_getD, hlt]
      have hxl : x.length ≤ 9223372036854775807 := by
        have := HXL.out k hlt
        rw [hx] at this
        omega
      have hts : path.take (k + 1) = path.take k ++ [x] := by rw [take_snoc path [] k hlt, hx]
      have HTS := Kp.mk hts
      have b1 := blk_cell hbk 1
      have hR1' := HRW.out.snoc hc11 (hCC w1 K HI1.out).2
      rw [← wilds_succ] at hR1'
      obtain ⟨n1, hn1⟩ : ∃ n1, (idsAt ps (path.take k) true).length = n1 := ⟨_, rfl⟩
      rw [hn1] at b1 hR1'
      have HRW1 := Kp.mk hR1'
      have hrl24 : (raws.length + 1) * 24 ≤ 140737488355328 := by omega
      have hszr := HWr.out.size
      clear hlook hts hbk hCC hx hn1 hc11 hrl hR1'
      go_wp2_with (at_builtin; with_reducible refine gate_builtin (b := .append) (xs := #[.tmp 25, .tmp 30]) rfl ?_; go_must (refine app_raw (w0 := w1) (s := .tmp 25) (x := .tmp 30) (v := u6) (base := w1.heap.size) rfl rfl raws A1 n1 c11 rfl rfl HR.out HWr.out hszr hrl24 ?_))
      intro v1 wa HR1 HB1a HG1
      have HMa := Kp.mk (HMA.out.grown HR.out HG1.out)
      have HIa := Kp.mk (HI.out.below (HS1.out.step HB1a.out).below)
      obtain ⟨A0', c0', A1', c1', mv', hbk', -, -, hlook'⟩ := HMa.out.open_ HIa.out
      obtain ⟨y, hrun, hyes, hno⟩ := hlook' x hxl
      have HYES := Kp.mk hyes
      have HNO := Kp.mk hno
      have b2 := blk_cell hbk' 2
      have hsza := HB1a.out.size
      clear b1 hbk' hlook' hyes hno HMA HMa
      cases y with
      | some b' =>
        have HM1 := Kp.mk (HYES.out b' rfl)
        clear HYES HNO
        simp only [ptrV] at hrun
        go_wp2
        exact ⟨⟨k + 1, b', _, by omega, by go_num, rfl, HB1a, HR1, HRW1, ⟨by rw [HTS.out]; exact HM1.out⟩⟩, by simp [intOf]; omega⟩
      | none =>
        have HN1 := Kp.mk (HNO.out rfl)
        clear HYES HNO
        simp only [ptrV] at hrun
        go_wp2
        have hba : Below wa.heap.size wa (wa.alloc (.cells #[.slice none 0 0, .slice none 0 0, .map none] 73)) := (Below.refl _ _).alloc (Nat.le_refl _) _
        exact ⟨⟨k + 1, _, _, by omega, by go_num, rfl, ⟨below_step HB1a.out hba⟩, ⟨Kd.R_below HR1.out hba⟩, HRW1, ⟨.inr ⟨by rw [HTS.out]; exact HN1.out, heap_new _ _⟩⟩⟩, by simp [intOf]; omega⟩
    · obtain rfl : k = path.length := by omega
      rw [List.take_length] at hbk hCC HMA
      have b0 := blk_cell hbk 0
      have hC0 := (hCC wr K HIr.out).1
      have HC0 := Kp.mk hC0
      have hi0 := idsAt_len ps path false
      have hwf := wilds_flat ps path path.length
      have hmf : matchF ps path = idsAt ps path false ++ (wildsF ps path path.length).reverse.flatten := rfl
      obtain ⟨ids, hids⟩ : ∃ ids, idsAt ps path false = ids := ⟨_, rfl⟩
      obtain ⟨wls, hwls⟩ : ∃ wls, wildsF ps path path.length = wls := ⟨_, rfl⟩
      have hwl := wilds_len ps path path.length
      rw [hids] at HC0 b0 hi0 hmf
      rw [hwls] at HRW hwf hwl hmf
      have HMF := Kp.mk hmf
      have hmul : path.length * ps.length ≤ 10001 * 1000000 := Nat.mul_le_mul hpl hn
      have hfl : wls.reverse.flatten.length ≤ 10001000000 := by omega
      have HFL := Kp.mk hfl
      have HSr := Kp.mk (HS1.out.step HWr.out)
      clear hlook hbk hCC hc11 hids hwls hwf hmul hmf hC0 hfl
      go_wp2_with (fail)
      refine gsM_ (cloneI_calls A0 ids.length c00 ids _ HC0.out (by omega)) HSr ?_
      intro A2 c2 w2 hc2 hcm2 HC2 HM2 HB2 HS2
      have HR2 := Kp.mk (Kd.R_below HR.out HB2.out)
      obtain ⟨v2, hv2, hRo⟩ := HM2.out
      obtain rfl := List.singleton_inj.1 hv2
      have HRO := Kp.mk hRo
      obtain ⟨Aw, cw, rfl⟩ := Kd.R_slice HR.out
      clear hRo hv2
      have hbr : Below wr.heap.size wr w2 := HB2.out
      have HBR := Kp.mk hbr
      clear hbr
      go_wp2_with (fail)
      by_cases h0 : path.length = 0
      · obtain rfl : path = [] := List.eq_nil_of_length_eq_zero h0
        obtain rfl : raws = [] := List.eq_nil_of_length_eq_zero (hrl.trans rfl)
        obtain rfl : wls = [] := List.eq_nil_of_length_eq_zero (hwl.trans rfl)
        clear hrl hwl h0
        refine q_ (reverseR_none Aw cw _) ?_
        go_wp2_with (fail)
        refine gsM_ (concatI_calls Aw cw ([] : List (List Int)).reverse _ ⟨rfl, by simp, fun h => by simp at h⟩ (by simp)) HS2 ?_
        intro A4 c4 w4 hc4 hcm4 HC4 HM4 HB4 HS4
        have HRO4 := Kp.mk (Kd.R_below HRO.out HB4.out)
        have HBb := Kp.mk (below_step HBR.out HB4.out)
        go_wp2_with (at_builtin; with_reducible refine gate_builtin (b := .append) (xs := #[.tmp 50, .tmp 52]) rfl ?_; go_must (refine app_ints (w0 := wr) (s := .tmp 50) (x := .tmp 52) (v := .slice A2 ids.length c2) (base := wr.heap.size) rfl rfl ids ([] : List (List Int)).reverse.flatten A4 ([] : List (List Int)).reverse.flatten.length c4 rfl (by simp [go_sem]) HRO4.out HC4.out HBb.out HBb.out.size (by have := HFL.out; omega) ?_))
        intro v5 w5 HR5 HB5 hs5
        go_wp2
        go_ret
        exact ⟨_, rfl, ⟨_, rfl, by rw [HMF.out]; simpa using Kd.R_lower HR5.out HSr.out.size⟩, below_step HSr.out.below HB5.out⟩
      · obtain ⟨g, rfl, hg, -⟩ := R_form HR.out (by omega)
        have hrev := reverseR_calls g cw raws w2 _ HR2.out
        rw [hrl] at hrev
        refine hrev.mono ?_
        rintro e3 w3 ⟨rfl, hR3, hg3⟩
        have hl3 : g < w2.heap.size := by
          obtain ⟨cs, hcs⟩ := own_typed (Kd.own_of_R HR2.out) g rfl
          exact heap_lt hcs
        have hB13 : Below w1.heap.size w2 w3 := (Below.refl w1.heap.size w2).grown hg3 (by have := HBR.out.size; have := HWr.out.size; omega) (fun z hz => by obtain rfl := Option.some.inj hz; exact hg)
        have hBw : Below w.heap.size w w3 := HS2.out.below.trans (hB13.mono HS1.out.size)
        have HS3 := Kp.mk (StM.mk hBw (HS.out.env.below hBw))
        have hgr : g < wr.heap.size := by
          obtain ⟨cs, hcs⟩ := own_typed (Kd.own_of_R HR.out) g rfl
          exact heap_lt hcs
        have HRO3 : Kp ((Kd.int .i64).R 3 w3 wr.heap.size (fun _ => True) (.slice A2 ids.length c2) ids) := ⟨Kd.R_of_own (own_move (Kd.own_of_R HRO.out) (fun k hk => hg3.block k (own_lt (Kd.own_of_R HRO.out) k hk) (fun e => by
          obtain rfl := Option.some.inj e
          have := own_base (Kd.own_of_R HRO.out) k hk
          omega))) (fun _ _ => trivial)⟩
        have hraw := (HRW.out.reverse.below ((below_step HWr.out HB2.out).trans hB13)).C (R_C hR3).1
        have hcc := concatI_calls (some ⟨g, 0, none⟩) cw wls.reverse w3 (by rw [List.length_reverse, hwl]; exact hraw) (by have := HFL.out; omega)
        rw [List.length_reverse, hwl] at hcc
        have HCC := Kp.mk hcc
        have HR3 := Kp.mk hR3
        clear hcc hraw hBw hrev hR3
        have hszb : wr.heap.size ≤ w3.heap.size := Nat.le_trans HBR.out.size hg3.size
        have HG3 := Kp.mk hg3
        have HB13 := Kp.mk hB13
        clear hg3 hB13
        go_wp2_with (fail)
        refine gsM_ HCC.out HS3 ?_
        intro A4 c4 w4 hc4 hcm4 HC4 HM4 HB4 HS4
        have HRO4 := Kp.mk (Kd.R_below HRO3.out HB4.out)
        have hs4 : wr.heap.size ≤ w4.heap.size := Nat.le_trans hszb HB4.out.size
        go_wp2_with (at_builtin; with_reducible refine gate_builtin (b := .append) (xs := #[.tmp 50, .tmp 52]) rfl ?_; go_must (refine app_ints (w0 := w4) (s := .tmp 50) (x := .tmp 52) (v := .slice A2 ids.length c2) (base := wr.heap.size) rfl rfl ids wls.reverse.flatten A4 wls.reverse.flatten.length c4 rfl (by simp [go_sem]) HRO4.out HC4.out (Below.refl _ _) hs4 (by have := HFL.out; omega) ?_))
        intro v5 w5 HR5 HB5 hs5
        go_wp2
        go_ret
        exact ⟨_, rfl, ⟨_, rfl, by rw [HMF.out]; exact Kd.R_lower HR5.out HSr.out.size⟩, HS4.out.below.trans (HB5.out.mono HSr.out.size)⟩
end Go.Proofs.YtimaliamidgflaaDoor
