/-
  Messages whose names lead back: the plain law.
-/
import Derived.Test.YtlkneoednkhleaaGreatDoorGu
namespace Go.Proofs.YtlkneoednkhleaaGreatDoor
open Go.RowKit Go.Proofs.YtlkneoednkhleaaGreatDoorW.PrintWords
set_option linter.unusedVariables false
set_option linter.unusedSimpArgs false
set_option maxRecDepth 100000
set_option maxHeartbeats 2000000

theorem nameW_leD (l : L) : (nameW l).length ≤ l.length + 2 := by
  unfold nameW
  rw [List.length_append, List.length_singleton, wire_len]
  unfold labelsOf
  split
  · show 1 ≤ _; omega
  · rw [splitD_sz]; exact Nat.le_refl _
/-- A record whose name leads back to the question's. -/
def ptrR (t i : Int) : List Int := [192, 12, 0, 1, 0, 1] ++ (be32 t ++ ([0, 4] ++ [1, 2, 3, i]))
def ptrG (s : L) (t i : Int) : Rec := ⟨s, 1, 1, t, adOf 1 [1, 2, 3, i], [], []⟩
theorem readN_ptr (s : L) (hs : rightL s = true) {xs : List Int} {rest r2 : List Int} (hn : xs.drop 12 = nameW s ++ rest) {a : Nat} (ha : 12 < a) (hd : xs.drop a = 192 :: 12 :: r2) : readN xs (a : Int) = (s, (a : Int) + 2, .none) := by
  obtain ⟨hsz, hlb⟩ := right_labels s hs
  have hlen := labels_len _ hlb
  have hx := drop_len xs a _ hd (by simp)
  simp only [List.length_cons] at hx
  have hc := cap_wire (labelsOf s) [] hlb
  rw [capL_nil] at hc
  have hn' : xs.drop 12 = wireOf (labelsOf s) ++ 0 :: rest := by rw [hn]; simp [nameW]
  have hr := read_caps _ _ hc [] (a * 300 + 300 - (labelsOf s).length - 1) xs 12 12 ((a : Int) + 2) rest hn' hlb (by rw [List.nil_append]; exact hsz)
  rw [show a * 300 + 300 - (labelsOf s).length - 1 + (labelsOf s).length + 1 = a * 300 + 300 by omega, List.nil_append, name_labels, if_neg (by omega)] at hr
  have hg : xs.getD a 0 = 192 := getD_drop xs a _ _ hd
  have hto : leapTo xs (a : Int) = 12 := by
    unfold leapTo
    rw [Int.toNat_natCast, hd]
    rfl
  have hl : leapE xs (a : Int) (a : Int) = .none := by
    unfold leapE
    rw [hto, if_neg (by omega), if_neg (by omega)]
  unfold readN
  rw [if_neg (by omega), Int.toNat_natCast, show a * 300 + 301 = (a * 300 + 300) + 1 from rfl, readF, if_neg (by omega), Int.toNat_natCast, hg, if_neg (by decide), if_neg (by decide), if_pos (by decide), if_pos hl, hto, if_pos (by decide)]
  exact hr
theorem recR_ptr (s : L) (hs : rightL s = true) (t i : Int) {xs : List Int} {rest r2 : List Int} (hn : xs.drop 12 = nameW s ++ rest) {a : Nat} (ha : 12 < a) (hd : xs.drop a = ptrR t i ++ r2) : recR xs (a : Int) = (ptrG s t i, ((a + 16 : Nat) : Int), .none) := by
  have hd0 : xs.drop a = 192 :: 12 :: ([0, 1] ++ ([0, 1] ++ (be32 t ++ ([0, 4] ++ ([1, 2, 3, i] ++ r2))))) := by rw [hd]; simp [ptrR]
  have h1 := readN_ptr s hs hn ha hd0
  have hd1 : xs.drop ((a : Int) + 2).toNat = [0, 1] ++ ([0, 1] ++ (be32 t ++ ([0, 4] ++ ([1, 2, 3, i] ++ r2)))) := by
    rw [show ((a : Int) + 2).toNat = a + 2 by omega, ← List.drop_drop, hd0]
    rfl
  have h2 := num_drop (a := (a : Int) + 2) (n := 2) (by omega) hd1 (by rfl) (by decide)
  have hd2 := drop_more (by omega) hd1
  have h3 := num_drop (a := (a : Int) + 2 + 2) (n := 2) (by omega) hd2 (by rfl) (by decide)
  have hd3 := drop_more (by omega) hd2
  have hq : quR xs (a : Int) = (⟨s, 1, 1⟩, (a : Int) + 2 + 4, .none) := by
    unfold quR
    rw [h1]
    dsimp only
    rw [if_neg (by simp), if_neg (by rw [h2.2.1]; simp), if_neg (by rw [h3.2.1]; simp), h2.1, h3.1]
    rfl
  have e1 : (a : Int) + 2 + (([0, 1] : List Int).length : Int) + (([0, 1] : List Int).length : Int) = (a : Int) + 2 + 4 := by simp only [List.length_cons, List.length_nil]; omega
  rw [e1] at hd3
  have h4 := num_drop (a := (a : Int) + 2 + 4) (n := 4) (by omega) hd3 (by rfl) (by decide)
  have hd4 := drop_more (by omega) hd3
  have e2 : (a : Int) + 2 + 4 + ((be32 t).length : Int) = (a : Int) + 2 + 4 + 4 := rfl
  rw [e2] at hd4
  have hf := fillR_eq (m := 4) ⟨s, 1, 1, t, Ad.zero, [], []⟩ (by omega) (show xs.drop ((a : Int) + 2 + 4 + 4).toNat = be16 4 ++ ([1, 2, 3, i] ++ r2) from hd4) (by decide) (by simp; omega)
  have hfin : fillR xs ((a : Int) + 2 + 4 + 4) ⟨s, 1, 1, t, Ad.zero, [], []⟩ = (ptrG s t i, ((a + 16 : Nat) : Int), .none) := by
    rw [hf]
    dsimp only
    rw [if_neg (by decide), if_neg (by decide), if_neg (by decide)]
    have e3 : (a : Int) + 2 + 4 + 4 + 2 + 4 = ((a + 16 : Nat) : Int) := by omega
    rw [e3]
    rfl
  unfold recR
  rw [hq]
  dsimp only
  rw [if_neg (by simp), if_neg (by rw [h4.2.1]; simp), h4.1, be_be32]
  show (if (fillR xs ((a : Int) + 2 + 4 + 4) ⟨s, 1, 1, t, Ad.zero, [], []⟩).2.2 ≠ .none then _ else fillR xs ((a : Int) + 2 + 4 + 4) ⟨s, 1, 1, t, Ad.zero, [], []⟩) = _
  rw [hfin, if_neg (by simp)]
theorem rsR_ptr (s : L) (hs : rightL s = true) (t : Int) {xs : List Int} {rest : List Int} (hn : xs.drop 12 = nameW s ++ rest) (is : List Int) (acc : List Rec) {a : Nat} (ha : 12 < a) (hd : xs.drop a = (is.map (ptrR t)).flatten) :
    rsR xs is.length (a : Int) acc = (acc ++ is.map (ptrG s t), ((a + 16 * is.length : Nat) : Int), .none) := by
  induction is generalizing acc a with
  | nil => simp [rsR]
  | cons i is ih =>
    have hd1 : xs.drop a = ptrR t i ++ (is.map (ptrR t)).flatten := by rw [hd]; simp
    have h1 := recR_ptr s hs t i hn ha hd1
    have hd2 : xs.drop (a + 16) = (is.map (ptrR t)).flatten := by
      rw [← List.drop_drop, hd1]
      exact List.drop_left' (show (ptrR t i).length = 16 from rfl)
    have h2 := ih (acc ++ [ptrG s t i]) (by omega) hd2
    rw [List.length_cons, rsR, h1]
    dsimp only
    rw [if_neg (by simp), h2]
    simp only [List.append_assoc, List.singleton_append, List.map_cons]
    congr 2
    omega
/-- The bytes of such a message. -/
def ptrB (s : L) (t : Int) (is : List Int) : List Int := [0, 9, 128, 0, 0, 1] ++ be16 is.length ++ [0, 0, 0, 0] ++ (nameW s ++ [0, 1, 0, 1]) ++ (is.map (ptrR t)).flatten
def ptrM (s : L) (t : Int) (is : List Int) : Msg := ⟨9, true, 0, 0, 0, [⟨s, 1, 1⟩], is.map (ptrG s t), [], []⟩
theorem ptr_parse (s : L) (hs : rightL s = true) (t : Int) (is : List Int) (hl : is.length ≤ 20) : parseM (ptrB s t is) = (ptrM s t is, .none) := by
  obtain ⟨xs, hxs⟩ : ∃ xs, ptrB s t is = xs := ⟨_, rfl⟩
  have hx : xs = be16 9 ++ be16 32768 ++ be16 1 ++ be16 is.length ++ be16 0 ++ be16 0 ++ (nameW s ++ ([0, 1, 0, 1] ++ (is.map (ptrR t)).flatten)) := by
    rw [← hxs]
    unfold ptrB
    simp only [List.append_assoc]
    rfl
  rw [hxs]
  obtain ⟨n0, n1, n2, n3, n4, n5, hd, hlen⟩ := head_nums hx
  have hnl := nameW_len s hs
  have hfl : ∀ l : List Int, (l.map (ptrR t)).flatten.length = 16 * l.length := by
    intro l
    induction l with
    | nil => rfl
    | cons i l ih =>
      simp only [List.map_cons, List.flatten_cons, List.length_append, List.length_cons, ih]
      show 16 + 16 * l.length = _
      omega
  rw [List.length_append, List.length_append, hfl] at hlen
  have c2 : cntM xs 4 = 1 := by unfold cntM; rw [n2]; rfl
  have c3 : cntM xs 6 = is.length := by unfold cntM; rw [n3]; exact Int.toNat_natCast _
  have c4 : cntM xs 8 = 0 := by unfold cntM; rw [n4]; rfl
  have c5 : cntM xs 10 = 0 := by unfold cntM; rw [n5]; rfl
  have hq : Qu.right ⟨s, 1, 1⟩ = true := by simp [Qu.right, hs, within]
  have hdq : xs.drop (12 : Int).toNat = Qu.wire ⟨s, 1, 1⟩ ++ (is.map (ptrR t)).flatten := by
    show xs.drop 12 = _
    rw [hd]
    unfold Qu.wire
    simp only [List.append_assoc]
    rfl
  have h1 := quR_drop ⟨s, 1, 1⟩ hq (by decide) hdq
  have hwl := wire_q_len ⟨s, 1, 1⟩
  dsimp only at hwl
  have hd1 := drop_more (by decide) hdq
  have ea : (12 : Int) + ((Qu.wire ⟨s, 1, 1⟩).length : Int) = ((12 + (Qu.wire ⟨s, 1, 1⟩).length : Nat) : Int) := by omega
  rw [ea] at h1 hd1
  rw [Int.toNat_natCast] at hd1
  have h2 := rsR_ptr s hs t hd is [] (a := 12 + (Qu.wire ⟨s, 1, 1⟩).length) (by omega) hd1
  have hb : bodyR xs 1 is.length 0 0 = (([⟨s, 1, 1⟩], is.map (ptrG s t), [], []), ((12 + (Qu.wire ⟨s, 1, 1⟩).length + 16 * is.length : Nat) : Int), .none) := by
    have hqs : qsR xs 1 12 [] = ([⟨s, 1, 1⟩], ((12 + (Qu.wire ⟨s, 1, 1⟩).length : Nat) : Int), .none) := by
      rw [qsR, h1]
      dsimp only
      rw [if_neg (by simp)]
      rfl
    unfold bodyR
    rw [hqs]
    dsimp only
    rw [if_neg (by simp)]
    unfold bodyR1
    rw [h2]
    dsimp only
    rw [if_neg (by simp)]
    unfold bodyR2
    rw [rsR]
    dsimp only
    rw [if_neg (by simp)]
    unfold bodyR3
    rw [rsR]
    dsimp only
    rw [if_neg (by simp)]
    rfl
  unfold parseM
  rw [c2, c3, c4, c5, if_neg (by simp only [List.length_cons, List.length_nil] at hlen; omega), if_neg (by omega), if_neg (by omega), hb]
  dsimp only
  rw [if_neg (by simp [Er.placed]), if_neg (by simp only [List.length_cons, List.length_nil] at hlen; omega)]
  unfold headM ptrM
  rw [n0, n1]
  rfl
end Go.Proofs.YtlkneoednkhleaaGreatDoor
