/-
  The law RecordBack: what is written is read, wherever it stands; cut anywhere it is none: the plain law.
-/
import Derived.Test.YtclgffblfjhciaaGreatDoorGs
import Derived.Test.YtclgffblfjhciaaGreatDoorZNsA
import Derived.Test.YtclgffblfjhciaaGreatDoorZRecG
namespace Go.Proofs.YtclgffblfjhciaaGreatDoor
open Go.RowKit Go.Proofs.YtclgffblfjhciaaGreatDoorW.PrintWords
set_option linter.unusedVariables false
set_option linter.unusedSimpArgs false
set_option maxRecDepth 100000
set_option maxHeartbeats 1000000

/-- A record as it is read. -/
def Rec.norm (r : Rec) : Rec := { r with ad := if szT r.typ = 0 then Ad.zero else adOf r.typ (r.ad.l.take (szT r.typ).toNat) }
structure Rec.Parts (r : Rec) : Prop where
  q : Qu.right ⟨r.name, r.typ, r.cls⟩ = true
  t : rightL r.tgt = true
  d : r.data.length ≤ 1000
  form : (szT r.typ ≠ 0 ∧ r.typ ≠ 5 ∧ r.tgt = [] ∧ r.data = [] ∧ r.ad.right = true ∧ r.ad.v6 = decide (r.typ = 28)) ∨ (szT r.typ = 0 ∧ r.typ = 5 ∧ r.ad.plain = true ∧ r.data = []) ∨ (szT r.typ = 0 ∧ r.typ ≠ 5 ∧ r.ad.plain = true ∧ r.tgt = [])
theorem Rec.parts {r : Rec} (h : r.right = true) : r.Parts := by
  unfold Rec.right at h
  simp only [Bool.and_eq_true, decide_eq_true_eq] at h
  obtain ⟨h1, h2, h3, h4⟩ := h
  refine ⟨h1, h2, h3, ?_⟩
  unfold Rec.tail at h4
  by_cases t1 : r.typ = 1 ∨ r.typ = 28
  · rw [if_pos t1] at h4
    simp only [Bool.and_eq_true, decide_eq_true_eq, beq_iff_eq] at h4
    obtain ⟨e1, e2, e3, e4⟩ := h4
    refine .inl ⟨?_, by omega, by simpa using e1, List.length_eq_zero_iff.1 e2, e3, e4⟩
    unfold szT
    rcases t1 with t | t <;> rw [t] <;> decide
  · rw [if_neg t1] at h4
    have hz : szT r.typ = 0 := by unfold szT; rw [if_neg (by omega), if_neg (by omega)]
    by_cases t5 : r.typ = 5
    · rw [if_pos t5] at h4
      simp only [Bool.and_eq_true, decide_eq_true_eq] at h4
      exact .inr (.inl ⟨hz, t5, h4.1, List.length_eq_zero_iff.1 h4.2⟩)
    · rw [if_neg t5] at h4
      simp only [Bool.and_eq_true] at h4
      exact .inr (.inr ⟨hz, t5, h4.1, by simpa using h4.2⟩)
theorem szT_cases (t : Int) : (t = 28 ∧ szT t = 16) ∨ (t = 1 ∧ szT t = 4) ∨ szT t = 0 := by
  unfold szT
  by_cases h : t = 28
  · exact .inl ⟨h, if_pos h⟩
  · by_cases h1 : t = 1
    · exact .inr (.inl ⟨h1, by rw [if_neg h, if_pos h1]⟩)
    · exact .inr (.inr (by rw [if_neg h, if_neg h1]))
theorem wire_q_len (q : Qu) : q.wire.length = (nameW q.name).length + 4 := by
  unfold Qu.wire
  simp only [List.length_append]
  rfl
theorem wire_len_rec (r : Rec) : r.wire.length = (Qu.wire ⟨r.name, r.typ, r.cls⟩).length + 6 + r.body.length := by
  unfold Rec.wire
  simp only [List.length_append]
  show (Qu.wire ⟨r.name, r.typ, r.cls⟩).length + 4 + 2 + r.body.length = _
  omega
/-- What is written is read. -/
theorem back_rec (r : Rec) (h : r.right = true) {xs : List Int} {a : Int} {rest : List Int} (ha : 0 ≤ a) (hd : xs.drop a.toNat = r.wire ++ rest) : recR xs a = (r.norm, a + r.wire.length, .none) := by
  have hp := Rec.parts h
  have hbl := body_len r h
  have hd0 : xs.drop a.toNat = Qu.wire ⟨r.name, r.typ, r.cls⟩ ++ (be32 r.ttl ++ (be16 r.body.length ++ (r.body ++ rest))) := by rw [hd]; simp [Rec.wire]
  obtain ⟨r1, r2⟩ := recR_head ⟨r.name, r.typ, r.cls⟩ hp.q r.ttl ha hd0
  dsimp only at r1
  have hm : ((r.body.length : Nat) : Int) ≤ (r.body ++ rest).length := by rw [List.length_append]; omega
  have h3 := fillR_eq (m := r.body.length) ⟨r.name, r.typ, r.cls, r.ttl, Ad.zero, [], []⟩ (by omega) r2 (by omega) hm
  obtain ⟨-, -, h4, -, -⟩ := fillR_head (m := r.body.length) ⟨r.name, r.typ, r.cls, r.ttl, Ad.zero, [], []⟩ (by omega) r2 (by omega) hm
  dsimp only at h3
  have htk : (r.body ++ rest).take ((r.body.length : Nat) : Int).toNat = r.body := by rw [Int.toNat_natCast, List.take_left' rfl]
  rw [htk] at h3
  have hend : a + ((Qu.wire ⟨r.name, r.typ, r.cls⟩).length : Int) + 4 + 2 + (r.body.length : Int) = a + (r.wire.length : Int) := by rw [wire_len_rec]; omega
  have hfin : fillR xs (a + ((Qu.wire ⟨r.name, r.typ, r.cls⟩).length : Int) + 4) ⟨r.name, r.typ, r.cls, r.ttl, Ad.zero, [], []⟩ = (r.norm, a + r.wire.length, .none) := by
    rw [h3]
    rcases hp.form with ⟨hz, h5, ht, hda, -, -⟩ | ⟨hz, h5, -, hda⟩ | ⟨hz, h5, -, ht⟩
    · have hb : r.body = r.ad.l.take (szT r.typ).toNat := by unfold Rec.body; rw [if_neg h5, hda, List.append_nil]
      have hbl2 : szT r.typ = (r.body.length : Int) := by
        rw [hb, List.length_take, ad_l_len]
        rcases szT_cases r.typ with h | h | h
        · rw [h.2]; rfl
        · rw [h.2]; rfl
        · exact absurd h hz
      rw [if_neg h5, if_neg hz, if_neg (by simp [hbl2]), hend]
      unfold Rec.norm
      rw [if_neg hz, ← hb, ht, hda]
    · have hb : r.body = nameW r.tgt := by unfold Rec.body; rw [if_pos h5]
      rw [hb] at h4
      have h6 := readN_drop r.tgt hp.t (by omega) h4
      rw [h6, ← hb]
      dsimp only
      rw [if_pos h5, if_neg (by simp), if_neg (by simp), hend]
      unfold Rec.norm
      rw [if_pos hz, hda]
    · have hb : r.body = r.data := by unfold Rec.body; rw [if_neg h5, hz]; rfl
      rw [if_neg h5, if_pos hz, hend]
      unfold Rec.norm
      rw [if_pos hz, ht, hb]
  rw [r1, hfin]
  rfl
theorem eq16_of {xs ys : List Int} (h : xs = ys) : eq16 xs ys = true := by rw [h]; exact eq16_self _
theorem plain_mk {a : Ad} (h : a.plain = true) : a.v6 = false ∧ a.l = [(fun _ => (0 : Int)) 0, (fun _ => (0 : Int)) 1, (fun _ => (0 : Int)) 2, (fun _ => (0 : Int)) 3, (fun _ => (0 : Int)) 4, (fun _ => (0 : Int)) 5, (fun _ => (0 : Int)) 6, (fun _ => (0 : Int)) 7, (fun _ => (0 : Int)) 8, (fun _ => (0 : Int)) 9, (fun _ => (0 : Int)) 10, (fun _ => (0 : Int)) 11, (fun _ => (0 : Int)) 12, (fun _ => (0 : Int)) 13, (fun _ => (0 : Int)) 14, (fun _ => (0 : Int)) 15] := by
  unfold Ad.plain at h
  simp only [Bool.and_eq_true, beq_iff_eq] at h
  refine ⟨h.1, ?_⟩
  have := h.2
  unfold eq16 at this
  exact eq_of_beq this
/-- .. the same record. -/
theorem norm_ad (r : Rec) (h : r.right = true) : r.norm.ad.v6 = r.ad.v6 ∧ r.norm.ad.l = r.ad.l := by
  have hp := Rec.parts h
  rcases hp.form with ⟨hz, h5, ht, hda, har, hv⟩ | ⟨hz, h5, hpl, hda⟩ | ⟨hz, h5, hpl, ht⟩
  · unfold Rec.norm
    dsimp only
    rw [if_neg hz]
    rcases szT_cases r.typ with ⟨h1, h2⟩ | ⟨h1, h2⟩ | h2
    · refine ⟨by rw [hv]; rfl, ?_⟩
      rw [h2, h1]
      rfl
    · have hv0 : r.ad.v6 = false := by rw [hv, h1]; rfl
      refine ⟨by rw [hv]; rfl, ?_⟩
      unfold Ad.right at har
      rw [hv0, Bool.false_or] at har
      have hall : ∀ x ∈ r.ad.l.drop 4, x = 0 := by
        intro x hx
        have h6 : ((r.ad.l.drop 4).any nzB) = false := by simpa using har
        have := List.any_eq_false.1 h6 x hx
        unfold nzB at this
        simpa using this
      have hr : r.ad.l.drop 4 = List.replicate 12 0 := List.eq_replicate_of_mem (a := (0 : Int)) hall
      have hsp : r.ad.l = r.ad.l.take 4 ++ List.replicate 12 0 := by rw [← hr, List.take_append_drop]
      conv => rhs; rw [hsp]
      rw [h2, h1]
      rfl
    · exact absurd h2 hz
  · obtain ⟨h1, h2⟩ := plain_mk hpl
    unfold Rec.norm
    dsimp only
    rw [if_pos hz, h1, h2]
    exact ⟨rfl, rfl⟩
  · obtain ⟨h1, h2⟩ := plain_mk hpl
    unfold Rec.norm
    dsimp only
    rw [if_pos hz, h1, h2]
    exact ⟨rfl, rfl⟩
/-- A name that is cut. -/
theorem readN_cut (s : L) (hr : rightL s = true) {xs : List Int} {a k : Nat} (hk : k < (nameW s).length) (hd : xs.drop a = (nameW s).take k) (hl : xs.length = a + k) : ∃ x, readN xs (a : Int) = ([], 0, .fault x 3) := by
  obtain ⟨hs, hlb⟩ := right_labels s hr
  have hn := labels_len _ hlb
  have hk' : k ≤ (wireOf (labelsOf s)).length := by
    unfold nameW at hk
    rw [List.length_append, List.length_singleton] at hk
    omega
  have hd' : xs.drop a = (wireOf (labelsOf s)).take (a + k - a) := by
    rw [hd, Nat.add_sub_cancel_left]
    unfold nameW
    rw [List.take_append_of_le_length hk']
  have h := read_cut (labelsOf s) [] ((a : Int).toNat * 300 + 300 - (labelsOf s).length) xs (a + k) a (a : Int) (-1) hl (by omega) hd' hlb hs
  rw [show (a : Int).toNat * 300 + 300 - (labelsOf s).length + (labelsOf s).length + 1 = (a : Int).toNat * 300 + 301 by omega] at h
  refine ⟨((cutAt (labelsOf s) (a + k) a : Nat) : Int), ?_⟩
  unfold readN
  rw [if_neg (by omega), h]
theorem take_app_ge {α : Type} (x y : List α) (k : Nat) (h : x.length ≤ k) : (x ++ y).take k = x ++ y.take (k - x.length) := by
  rw [List.take_append, List.take_of_length_le h]
/-- A question that is cut. -/
theorem quR_cut (q : Qu) (hq : q.right = true) {xs : List Int} {a k : Nat} {R : List Int} (hk : k < q.wire.length) (hd : xs.drop a = (q.wire ++ R).take k) (hl : xs.length = a + k) : ∃ er, quR xs (a : Int) = (Qu.zero, 0, er) ∧ er.num = 3 := by
  obtain ⟨hn, ht, hc⟩ := Qu.right_mk hq
  have hwl := wire_q_len q
  by_cases c1 : k < (nameW q.name).length
  · have hd' : xs.drop a = (nameW q.name).take k := by
      rw [hd]
      unfold Qu.wire
      rw [List.append_assoc, List.append_assoc, List.take_append_of_le_length (by omega)]
    obtain ⟨x, hx⟩ := readN_cut q.name hn c1 hd' hl
    refine ⟨.fault x 3, ?_, rfl⟩
    unfold quR
    rw [hx]
    dsimp only
    rw [if_pos (by simp)]
  · have hd' : xs.drop (a : Int).toNat = nameW q.name ++ ((be16 q.typ ++ (be16 q.cls ++ R)).take (k - (nameW q.name).length)) := by
      rw [Int.toNat_natCast, hd, ← take_app_ge _ _ _ (by omega)]
      unfold Qu.wire
      simp
    have hx := readN_drop q.name hn (by omega) hd'
    unfold quR
    rw [hx]
    dsimp only
    rw [if_neg (by simp)]
    by_cases c2 : k < (nameW q.name).length + 2
    · have he := partE_short (len := xs.length) (a := (a : Int) + (nameW q.name).length) (n := 2) (by omega) (by omega) (by omega)
      rw [he, if_pos (by simp)]
      exact ⟨_, rfl, rfl⟩
    · have he := partE_ok (len := xs.length) (a := (a : Int) + (nameW q.name).length) (n := 2) (by omega) (by omega) (by omega)
      have he2 := partE_short (len := xs.length) (a := (a : Int) + (nameW q.name).length + 2) (n := 2) (by omega) (by omega) (by omega)
      rw [he, if_neg (by simp), he2, if_pos (by simp)]
      exact ⟨_, rfl, rfl⟩
/-- A record that is cut. -/
theorem recR_cut (r : Rec) (h : r.right = true) {xs : List Int} {a k : Nat} {R : List Int} (hk : k < r.wire.length) (hd : xs.drop a = (r.wire ++ R).take k) (hl : xs.length = a + k) : ∃ er, recR xs (a : Int) = (Rec.zero, 0, er) ∧ er.num = 3 := by
  have hp := Rec.parts h
  have hwl := wire_len_rec r
  have hassoc : r.wire ++ R = Qu.wire ⟨r.name, r.typ, r.cls⟩ ++ (be32 r.ttl ++ (be16 r.body.length ++ (r.body ++ R))) := by simp [Rec.wire]
  rw [hassoc] at hd
  obtain ⟨q, hqe⟩ : ∃ q : Qu, q = ⟨r.name, r.typ, r.cls⟩ := ⟨_, rfl⟩
  have hq : q.right = true := by rw [hqe]; exact hp.q
  rw [← hqe] at hd hwl
  by_cases c1 : k < q.wire.length
  · obtain ⟨er, he, hn⟩ := quR_cut q hq c1 hd hl
    refine ⟨er, ?_, hn⟩
    have hne : er ≠ .none := by intro h; rw [h] at hn; exact absurd hn (by decide)
    unfold recR
    rw [he]
    dsimp only
    rw [if_pos hne]
  · have hd1 : xs.drop (a : Int).toNat = q.wire ++ ((be32 r.ttl ++ (be16 r.body.length ++ (r.body ++ R))).take (k - q.wire.length)) := by
      rw [Int.toNat_natCast, hd, take_app_ge _ _ _ (by omega)]
    have hx := quR_drop q hq (by omega) hd1
    by_cases c2 : k < q.wire.length + 4
    · have he := partE_short (len := xs.length) (a := (a : Int) + q.wire.length) (n := 4) (by omega) (by omega) (by omega)
      unfold recR
      rw [hx]
      dsimp only
      rw [if_neg (by simp), he, if_pos (by simp)]
      exact ⟨_, rfl, rfl⟩
    · have hd2 : xs.drop (a : Int).toNat = q.wire ++ (be32 r.ttl ++ ((be16 r.body.length ++ (r.body ++ R)).take (k - q.wire.length - 4))) := by
        rw [hd1, take_app_ge (be32 r.ttl) _ _ (by show 4 ≤ _; omega)]
        rfl
      obtain ⟨h1, h2⟩ := recR_head q hq r.ttl (by omega) hd2
      by_cases c3 : k < q.wire.length + 6
      · have he := partE_short (len := xs.length) (a := (a : Int) + q.wire.length + 4) (n := 2) (by omega) (by omega) (by omega)
        have hf : (fillR xs ((a : Int) + q.wire.length + 4) ⟨q.name, q.typ, q.cls, r.ttl, Ad.zero, [], []⟩).2.2 = .fault ((a : Int) + q.wire.length + 4) 3 := by
          unfold fillR
          rw [he, if_pos (by simp)]
        rw [h1, hf, if_pos (by simp)]
        exact ⟨_, rfl, rfl⟩
      · have hd3 : xs.drop ((a : Int) + q.wire.length + 4).toNat = be16 r.body.length ++ ((r.body ++ R).take (k - q.wire.length - 6)) := by
          rw [h2, take_app_ge (be16 _) _ _ (by show 2 ≤ _; omega)]
          rfl
        have hnum := num_drop (a := (a : Int) + q.wire.length + 4) (n := 2) (by omega) hd3 (by rfl) (by decide)
        have he := partE_short (len := xs.length) (a := (a : Int) + q.wire.length + 4 + 2) (n := (r.body.length : Int)) (by omega) (by omega) (by omega)
        have hf : (fillR xs ((a : Int) + q.wire.length + 4) ⟨q.name, q.typ, q.cls, r.ttl, Ad.zero, [], []⟩).2.2 = .fault ((a : Int) + q.wire.length + 4) 3 := by
          unfold fillR
          rw [hnum.2.1, if_neg (by simp), hnum.1, be_be16, he, if_pos (by simp)]
        rw [h1, hf, if_pos (by simp)]
        exact ⟨_, rfl, rfl⟩
theorem byts_take {xs : List Int} (h : Byts xs) (k : Nat) : Byts (xs.take k) := fun x hx => h x (List.mem_of_mem_take hx)
theorem byts_be16 {v : Int} (h0 : 0 ≤ v) (h1 : v ≤ 65535) : Byts (be16 v) := by
  intro x hx
  simp only [be16, List.mem_cons, List.not_mem_nil, or_false] at hx
  rcases hx with rfl | rfl <;> omega
theorem byts_be32 {v : Int} (h0 : 0 ≤ v) (h1 : v ≤ 4294967295) : Byts (be32 v) := by
  intro x hx
  simp only [be32, List.mem_cons, List.not_mem_nil, or_false] at hx
  rcases hx with rfl | rfl | rfl | rfl <;> omega
theorem byts_ad (a : Ad) (h : a.ok) : Byts a.l := by
  intro x hx
  simp only [Ad.l, List.mem_cons, List.not_mem_nil, or_false] at hx
  rcases hx with rfl | rfl | rfl | rfl | rfl | rfl | rfl | rfl | rfl | rfl | rfl | rfl | rfl | rfl | rfl | rfl <;> exact h _ (by decide)
theorem byts_wireQ (q : Qu) (h : q.right = true) : Byts q.wire := by
  obtain ⟨hn, ht, hc⟩ := Qu.right_mk h
  exact byts_app (byts_app (byts_name _ hn) (byts_be16 ht.1 ht.2)) (byts_be16 hc.1 hc.2)
theorem byts_wire (r : Rec) (h : r.right = true) (hok : r.ok) (h0 : 0 ≤ r.ttl) (h1 : r.ttl ≤ 4294967295) : Byts r.wire := by
  have hp := Rec.parts h
  have hbl := body_len r h
  have hb : Byts r.body := by
    unfold Rec.body
    split
    · exact byts_name _ hp.t
    · exact byts_app (fun x hx => byts_ad _ hok.ad x (List.mem_of_mem_take hx)) hok.data
  exact byts_app (byts_app (byts_app (byts_wireQ _ hp.q) (byts_be32 h0 h1)) (byts_be16 (by omega) (by omega))) hb
theorem wireQ_le (q : Qu) (h : q.right = true) : q.wire.length ≤ 260 := by
  have := nameW_len _ (Qu.right_mk h).1
  rw [wire_q_len]
  omega
theorem wire_le (r : Rec) (h : r.right = true) : r.wire.length ≤ 1282 := by
  have hp := Rec.parts h
  have hbl := body_len r h
  have := wireQ_le _ hp.q
  rw [wire_len_rec]
  omega
/-- The law. -/
theorem back_law (r : Rec) (q : Qu) (hr : r.right = true) (hq : q.right = true) (ah : List Int) (k : Nat) (hk : k < r.wire.length) :
    recR (ah ++ r.wire ++ q.wire) (ah.length : Int) = (r.norm, (ah.length : Int) + r.wire.length, .none)
    ∧ quR (ah ++ r.wire ++ q.wire) ((ah.length : Int) + r.wire.length) = (q, (((ah ++ r.wire ++ q.wire).length : Nat) : Int), .none)
    ∧ ((ah ++ r.wire ++ q.wire).take (ah.length + k)).length = ah.length + k
    ∧ ∃ er, recR ((ah ++ r.wire ++ q.wire).take (ah.length + k)) (ah.length : Int) = (Rec.zero, 0, er) ∧ er.num = 3 := by
  have hl : ((ah ++ r.wire ++ q.wire).take (ah.length + k)).length = ah.length + k := by
    rw [List.length_take, List.length_append, List.length_append]
    omega
  refine ⟨back_rec r hr (rest := q.wire) (by omega) (by rw [Int.toNat_natCast, List.append_assoc, List.drop_left' rfl]), ?_, hl, ?_⟩
  · have h := quR_drop q hq (xs := ah ++ r.wire ++ q.wire) (a := (ah.length : Int) + r.wire.length) (rest := []) (by omega) (by
      rw [show ((ah.length : Int) + (r.wire.length : Int)).toNat = (ah ++ r.wire).length by rw [List.length_append]; omega, List.drop_left' rfl, List.append_nil])
    rw [h]
    congr 2
    simp only [List.length_append]
    omega
  · refine recR_cut r hr (R := q.wire) hk ?_ hl
    rw [List.drop_take, Nat.add_sub_cancel_left, List.append_assoc, List.drop_left' rfl]
end Go.Proofs.YtclgffblfjhciaaGreatDoor
