/-
  Package name: Under, lower, by their contracts.
-/
import Derived.Test.YtlkneoednkhleaaGreatDoorYNameC
import Derived.Test.YtlkneoednkhleaaGreatDoorYOctD
namespace Go.Proofs.YtlkneoednkhleaaGreatDoor
open Go.RowKit Go.Proofs.YtlkneoednkhleaaGreatDoorW.PrintWords
set_option linter.unusedVariables false
set_option linter.unusedSimpArgs false
set_option maxRecDepth 100000
set_option maxHeartbeats 1000000

/-- Capitals made small. -/
def lowB (c : Int) : Int := if 65 ≤ c ∧ c ≤ 90 then c + 32 else c
/-- A row of the call's own that is not empty: where it lies. -/
theorem R_form {α : Type} {d : Kd α} {e base n c : Nat} {ok : Nat → Prop} {w : World} {A : Option Addr} {xs : List α} (h : d.R e w base ok (.slice A n c) xs) (hn : 0 < xs.length) : ∃ g, A = some ⟨g, 0, none⟩ ∧ base ≤ g ∧ n = xs.length := by
  obtain ⟨inner, ho⟩ := Kd.R_own h
  rcases ho.2 with ⟨h1, h2⟩ | ⟨g, cap, cur, hv, hg, _⟩
  · omega
  · injection hv with h1 h2 h3
    exact ⟨g, h1, hg, h2⟩
theorem lower_calls (A : Option Addr) (n c : Nat) (xs : List Int) (w : World) (h : (Kd.int .u8).C w A n xs) (hb : Byts xs) (hl : n ≤ 140737488355328) :
    Calls Tryz.prog 114 #[.slice A n c] w fun e w' => e = .returned (.string (strOfNums (xs.map lowB))) ∧ Below w.heap.size w w' := by
  have H := Kp.mk (cloneB_calls A n c xs w h hl)
  obtain ⟨hn, hm⟩ := C_len h
  obtain rfl := hn
  have HB := Kp.mk hb
  clear h hb
  go_enter Tryz.func114, Tryz.ntmps114
  go_wp2_with (fail)
  refine H.out.mono ?_
  rintro e w1 ⟨v, rfl, hm1, hb1⟩
  obtain ⟨v', hv, hR⟩ := hm1
  obtain rfl := List.singleton_inj.1 hv
  have HB1 := Kp.mk hb1
  have HR := Kp.mk hR
  obtain ⟨A1, c1, rfl⟩ := Kd.R_slice hR
  clear hR hb1 hv
  have hxl : xs.length ≤ 9223372036854775807 := by omega
  go_wp2_with (fail)
  go_loopw [9] (fun i wr => ∃ k : Nat, k ≤ xs.length ∧ i = .int .i64 k ∧ Kp (Below w.heap.size w wr) ∧ Kp ((Kd.int .u8).R 5 wr w.heap.size (fun _ => True) (.slice A1 xs.length c1) ((xs.take k).map lowB ++ xs.drop k))) (fun i _ => xs.length - (intOf i).toNat)
  case atStart => exact ⟨0, Nat.zero_le _, rfl, HB1, HR⟩
  case round =>
    obtain ⟨k, hk, rfl, HW, HRk⟩ := hrel
    by_cases hlt : k < xs.length
    · have hlen : ((xs.take k).map lowB ++ xs.drop k).length = xs.length := by simp; omega
      obtain ⟨g, rfl, hg, -⟩ := R_form HRk.out (by omega)
      have hget : rdOf 0 ((xs.take k).map lowB ++ xs.drop k) (k : Int) = xs.getD k 0 := by
        simp [rdOf, List.getD_eq_getElem?_getD, List.getElem?_append, Nat.min_eq_left (Nat.le_of_lt hlt)]
      obtain ⟨hcell, hfz⟩ := Kd.R_celln (0 : Int) HRk.out (k : Int) (by omega) (by omega)
      rw [hget] at hcell
      simp only [Int.toNat_natCast] at hcell hfz
      have hx := HB.out _ (getD_mem xs 0 k hlt)
      have HTS := Kp.mk (take_snoc xs 0 k hlt)
      have HDS : Kp (xs.drop k = xs.getD k 0 :: xs.drop (k + 1)) := ⟨by rw [List.drop_eq_getElem_cons hlt]; simp [List.getD_eq_getElem?_getD, hlt]⟩
      obtain ⟨x, hxe⟩ : ∃ x, xs.getD k 0 = x := ⟨_, rfl⟩
      rw [hxe] at hcell hx HTS HDS
      clear hget hxe hlen
      have HL0 : Kp (¬ (65 ≤ x ∧ x ≤ 90) → (xs.take (k + 1)).map lowB ++ xs.drop (k + 1) = (xs.take k).map lowB ++ xs.drop k) := ⟨fun h => by
        rw [HTS.out, HDS.out, List.map_append]
        simp [lowB, h]⟩
      by_cases h1 : 65 ≤ x
      · have b1 : decide (65 ≤ x) = true := by simpa using h1
        by_cases h2 : x ≤ 90
        · have b2 : decide (x ≤ 90) = true := by simpa using h2
          have hput := Kd.R_putn HRk.out (k : Int) (x - 65 + 97)
          have hset : (((xs.take k).map lowB ++ xs.drop k).set (k : Int).toNat (x - 65 + 97)) = (xs.take (k + 1)).map lowB ++ xs.drop (k + 1) := by
            rw [HTS.out, HDS.out, List.map_append, List.set_append_right _ _ (by simp; omega)]
            have h3 : lowB x = x - 65 + 97 := by unfold lowB; rw [if_pos ⟨h1, h2⟩]; omega
            simp [h3, Nat.min_eq_left (Nat.le_of_lt hlt)]
          rw [hset] at hput
          have HP : Kp ((Kd.int .u8).R 5 (wr.setCell ⟨g, k, none⟩ (.int .u8 (x - 65 + 97))) w.heap.size (fun _ => True) (.slice (some ⟨g, 0, none⟩) xs.length c1) ((xs.take (k + 1)).map lowB ++ xs.drop (k + 1))) := ⟨hput⟩
          clear HL0 hput hset
          go_wp2
          exact ⟨⟨k + 1, by omega, by go_num, ⟨HW.out.setCell hg _⟩, HP⟩, by simp [intOf]; omega⟩
        · have b2 : decide (x ≤ 90) = false := by simpa using h2
          have HL := Kp.mk (HL0.out (by omega))
          clear HL0 h2
          go_wp2
          exact ⟨⟨k + 1, by omega, by go_num, HW, ⟨by rw [HL.out]; exact HRk.out⟩⟩, by simp [intOf]; omega⟩
      · have b1 : decide (65 ≤ x) = false := by simpa using h1
        have HL := Kp.mk (HL0.out (by omega))
        clear HL0 h1
        go_wp2
        exact ⟨⟨k + 1, by omega, by go_num, HW, ⟨by rw [HL.out]; exact HRk.out⟩⟩, by simp [intOf]; omega⟩
    · obtain rfl : k = xs.length := by omega
      have e1 : (xs.take xs.length).map lowB ++ xs.drop xs.length = xs.map lowB := by simp
      rw [e1] at HRk
      have hCc := (Kd.R_reads' HRk.out).2.2
      rw [List.length_map] at hCc
      have kb := Kd.C_string (P := Tryz.prog) Tryz.underlying22 Tryz.underlying5 Tryz.underlying9 (c := c1) hCc
      clear e1 hlt hCc
      go_wp2
      go_ret
      exact ⟨rfl, HW.out⟩
end Go.Proofs.YtlkneoednkhleaaGreatDoor
