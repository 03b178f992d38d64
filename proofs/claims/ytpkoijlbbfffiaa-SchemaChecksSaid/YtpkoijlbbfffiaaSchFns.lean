/- The contracts of schema's small, isWord, IsName, the reference's IsWord, and value.PrintType. -/
import Derived.Test.YtpkoijlbbfffiaaSchPlain
import Derived.Test.YtpkoijlbbfffiaaValPrint
import Derived.Outline
namespace Go.Proofs.Ytpkoijlbbfffiaa.S
open Go.RowKit O V

theorem small_any (c : UInt8) (w : World) : Calls Try.prog 87 #[.int .u8 (c.toNat : Int)] w fun e w' => e = .returned (.bool (smallC c)) ∧ w = w' := by
  by_cases h : 97 ≤ (c.toNat : Int)
  · have hd : decide ((c.toNat : Int) ≥ 97) = true := by simpa using h
    have hr : Hid (smallC c = decide ((c.toNat : Int) ≤ 122)) := Lib.hid (by unfold smallC; rw [decide_eq_true (by omega), Bool.true_and]; simp; omega)
    go_enter Try.func87, Try.ntmps87
    go_wp2_with fail
    go_ret
    exact ⟨by rw [hr.out]; rfl, rfl⟩
  · have hd : decide ((c.toNat : Int) ≥ 97) = false := by simpa using h
    have hr : Hid (smallC c = false) := Lib.hid (by unfold smallC; rw [decide_eq_false (by omega)]; rfl)
    go_enter Try.func87, Try.ntmps87
    go_wp2_with fail
    go_ret
    exact ⟨by rw [hr.out]; rfl, rfl⟩
set_option maxHeartbeats 4000000 in
set_option maxRecDepth 100000 in
theorem isWord_any (s : List UInt8) (w : World) : Calls Try.prog 88 #[.string ⟨s.toArray⟩] w fun e w' => e = .returned (.bool (isWordL s)) ∧ w = w' := by
  go_enter Try.func88, Try.ntmps88
  go_wp2_with fail
  all_goals go_ret
  all_goals (refine ⟨?_, rfl⟩; unfold isWordL words; simp_all)
theorem word_cell (w : World) (T : TypeId) (k : Nat) (hk : k < 23) : (w.alloc (.cells (words.map fun s => Value.string ⟨s.toArray⟩).toArray T)).cell? ⟨w.heap.size, k, none⟩ = some (.string ⟨(words.getD k []).toArray⟩) := by
  rw [cell_of_row _ w.heap.size k _ T _ (heap_alloc_new w _)]
  have : k < words.length := hk
  simp [this]
theorem beq_sym (a b : List UInt8) : (a == b) = (b == a) := by
  rw [Bool.eq_iff_iff, beq_iff_eq, beq_iff_eq]
  exact ⟨Eq.symm, Eq.symm⟩
theorem any_step {s : List UInt8} {k : Nat} (hk : k < 23) : (words.take (k + 1)).any (fun w => s == w) = ((words.take k).any (fun w => s == w) || s == words.getD k []) := by
  have : k < words.length := hk
  rw [List.take_succ_eq_append_getElem this, List.any_append]
  simp [this]
theorem any_yes {s : List UInt8} {k : Nat} (hk : k < 23) (h : (s == words.getD k []) = true) : isWordL s = true := by
  have : k < words.length := hk
  unfold isWordL
  rw [List.any_eq_true]
  exact ⟨words.getD k [], by simp [this], h⟩
set_option maxHeartbeats 1000000 in
set_option maxRecDepth 100000 in
theorem risWord_any (s : List UInt8) (w : World) : Calls Try.prog 32 #[.string ⟨s.toArray⟩] w fun e w' => e = .returned (.bool (isWordL s)) ∧ Below w.heap.size w w' := by
  have hc := fun k hk => word_cell w 9 k hk
  have HC := Lib.hid hc; clear hc
  go_enter Try.func32, Try.ntmps32
  go_wp2_with fail
  go_loop [4, 7] (fun _ i => ∃ k : Nat, k ≤ 23 ∧ i = .int .i64 k ∧ Hid ((words.take k).any (fun w => s == w) = false)) (fun _ i => 23 - (intOf i).toNat)
  case atStart => exact ⟨0, by omega, rfl, Lib.hid (by simp)⟩
  case round =>
    obtain ⟨k, hk, rfl, H⟩ := hrel
    by_cases hlt : k < 23
    · have hcell := HC.out k hlt
      have hst := Lib.hid (any_step (s := s) hlt)
      have hye := Lib.hid (any_yes (s := s) hlt)
      generalize words.getD k [] = x at hcell hst hye
      rw [show (words.map fun s => Value.string ⟨s.toArray⟩).toArray = _ from rfl] at hcell
      simp only [words, List.map_cons, List.map_nil] at hcell
      cases he : (s == x)
      · have he' : (x == s) = false := by rw [beq_sym]; exact he
        go_wp2_with fail
        go_round
        case rel => exact ⟨k + 1, by omega, by go_num, Lib.hid (by rw [hst.out, H.out, he]; rfl)⟩
        case measure => simp [intOf]; omega
      · have he' : (x == s) = true := by rw [beq_sym]; exact he
        go_wp2_with fail
        go_ret
        exact ⟨by rw [hye.out he]; rfl, (Below.refl _ _).alloc (Nat.le_refl _) _⟩
    · obtain rfl : k = 23 := by omega
      go_wp2_with fail
      go_ret
      refine ⟨?_, (Below.refl _ _).alloc (Nat.le_refl _) _⟩
      have := H.out
      rw [show (words.take 23) = words from rfl] at this
      rw [isWordL, this]
      rfl
theorem name_end {s : List UInt8} (h : goodL (s.take s.length) = true) : isNameL s = ((decide (1 ≤ s.length) && decide (s.length ≤ 16)) && !isWordL s) := by
  rw [List.take_length] at h
  unfold isNameL
  rw [h]; rfl
theorem smallC_iff {c : UInt8} : restC c = (smallC c || otherC c) := rfl
set_option maxHeartbeats 1000000 in
set_option maxRecDepth 100000 in
theorem isName_any (s : List UInt8) (w : World) (hs : s.length ≤ 1000000000000) : Calls Try.prog 30 #[.string ⟨s.toArray⟩] w fun e w' => e = .returned (.bool (isNameL s)) ∧ w = w' := by
  have hsz : (ByteArray.mk s.toArray).size = s.length := by simp [ByteArray.size]
  go_enter Try.func30, Try.ntmps30
  go_wp2_with fail
  go_loop [2, 3, 6] (fun _ _ i => ∃ k : Nat, k ≤ s.length ∧ i = .int .i64 k ∧ Hid (goodL (s.take k) = true)) (fun _ _ i => s.length - (intOf i).toNat)
  case atStart => exact ⟨0, by omega, rfl, Lib.hid (by simp [goodL])⟩
  case round =>
    obtain ⟨k, hk, rfl, H⟩ := hrel
    by_cases hlt : k < s.length
    · have hn := Lib.hid (good_step hlt H.out)
      have hno := Lib.hid (isNameL_no (s := s) (k := k + 1))
      generalize hc : s[k] = c at hn
      have hx := ba_at s k hlt hc
      cases ho : smallC c
      · by_cases h0 : k = 0
        · have hno' := Lib.hid (hno.out (by rw [hn.out, if_pos h0, ho]))
          subst h0
          go_wp2_with fail
          refine (small_any c _).mono ?_; rintro e w1 ⟨rfl, rfl⟩
          rw [ho]
          go_wp2_with fail
          go_ret
          exact ⟨by rw [hno'.out]; rfl, rfl⟩
        · have hk0 : ((k : Int) == 0) = false := by simp; omega
          by_cases h95 : c.toNat = 95
          · have g1 : ((c.toNat : Int) != 95) = false := by simp; omega
            have hst := Lib.hid (show goodL (s.take (k + 1)) = true by rw [hn.out, if_neg h0]; simp [restC, otherC, h95])
            clear h95 hn hno
            go_wp2_with fail
            refine (small_any c _).mono ?_; rintro e w1 ⟨rfl, rfl⟩
            rw [ho]
            go_wp2_with fail
            go_round
            case rel => exact ⟨k + 1, by omega, by go_num, hst⟩
            case measure => simp [intOf]; omega
          · have g1 : ((c.toNat : Int) != 95) = true := by simp; omega
            by_cases h48 : (c.toNat : Int) < 48
            · have hno' := Lib.hid (hno.out (by rw [hn.out, if_neg h0]; simp [restC, otherC, h95, ho]; omega))
              have g2 : decide ((c.toNat : Int) < 48) = true := by simp; omega
              go_wp2_with fail
              refine (small_any c _).mono ?_; rintro e w1 ⟨rfl, rfl⟩
              rw [ho]
              go_wp2_with fail
              go_ret
              exact ⟨by rw [hno'.out]; rfl, rfl⟩
            · have g2 : decide ((c.toNat : Int) < 48) = false := by simp; omega
              by_cases h57 : (c.toNat : Int) > 57
              · have hno' := Lib.hid (hno.out (by rw [hn.out, if_neg h0]; simp [restC, otherC, h95, ho]; omega))
                have g3 : decide ((c.toNat : Int) > 57) = true := by simp; omega
                go_wp2_with fail
                refine (small_any c _).mono ?_; rintro e w1 ⟨rfl, rfl⟩
                rw [ho]
                go_wp2_with fail
                go_ret
                exact ⟨by rw [hno'.out]; rfl, rfl⟩
              · have g3 : decide ((c.toNat : Int) > 57) = false := by simp; omega
                go_wp2_with fail
                refine (small_any c _).mono ?_; rintro e w1 ⟨rfl, rfl⟩
                rw [ho]
                go_wp2_with fail
                go_round
                case rel => exact ⟨k + 1, by omega, by go_num, Lib.hid (by rw [hn.out, if_neg h0]; simp [restC, otherC]; omega)⟩
                case measure => simp [intOf]; omega
      · go_wp2_with fail
        refine (small_any c _).mono ?_; rintro e w1 ⟨rfl, rfl⟩
        rw [ho]
        go_wp2_with fail
        go_round
        case rel => exact ⟨k + 1, by omega, by go_num, Lib.hid (by rw [hn.out]; split <;> simp [restC, ho])⟩
        case measure => simp [intOf]; omega
    · obtain rfl : k = s.length := by omega
      have he := Lib.hid (name_end H.out)
      by_cases h1 : (1 : Int) ≤ (s.length : Int)
      · have d1 : decide ((s.length : Int) ≥ 1) = true := by simp; omega
        by_cases h2 : (s.length : Int) ≤ 16
        · have d2 : decide ((s.length : Int) ≤ 16) = true := by simp; omega
          have he' := Lib.hid (show isNameL s = !isWordL s by rw [he.out, decide_eq_true (by omega), decide_eq_true (by omega)]; rfl)
          go_wp2_with fail
          refine (isWord_any s _).mono ?_; rintro e w1 ⟨rfl, rfl⟩
          go_wp2_with fail
          go_ret
          exact ⟨by rw [he'.out]; rfl, rfl⟩
        · have d2 : decide ((s.length : Int) ≤ 16) = false := by simp; omega
          have he' := Lib.hid (show isNameL s = false by rw [he.out, decide_eq_true (by omega), decide_eq_false (by omega)]; rfl)
          go_wp2_with fail
          go_ret
          exact ⟨by rw [he'.out]; rfl, rfl⟩
      · have d1 : decide ((s.length : Int) ≥ 1) = false := by simp; omega
        have he' := Lib.hid (show isNameL s = false by rw [he.out, decide_eq_false (by omega)]; rfl)
        go_wp2_with fail
        go_ret
        exact ⟨by rw [he'.out]; rfl, rfl⟩
def printT (k m : Int) : List UInt8 := if rightT k m then (if k = 1 then [105, 110, 116] else if k = 2 then [98, 111, 111, 108] else [116, 101, 120, 116, 32] ++ decL m) else []
theorem rightT_cases {k m : Int} (h : rightT k m = true) : k = 1 ∨ k = 2 ∨ (k = 3 ∧ 1 ≤ m ∧ m ≤ 32) := by
  unfold rightT at h
  simp at h
  omega
set_option maxHeartbeats 1000000 in
set_option maxRecDepth 100000 in
theorem printType_any (k m : Int) (w : World) : Calls Try.prog 134 #[tv k m] w fun e w' => e = .returned (.string ⟨(printT k m).toArray⟩) ∧ Below w.heap.size w w' := by
  simp only [tv]
  cases hr : rightT k m
  · have hp : Hid (printT k m = []) := Lib.hid (by rw [printT, hr]; rfl)
    go_enter Try.func134, Try.ntmps134
    go_wp2_with fail
    refine (rightType_any k m _).mono ?_; rintro e w1 ⟨rfl, b1⟩
    rw [hr]
    have B1 : Below w.heap.size w w1 := bthen (by repeat (first | exact Below.refl _ _ | refine Below.alloc ?_ (by simp <;> omega) _)) b1
    go_wp2_with fail
    go_ret
    exact ⟨by rw [hp.out]; rfl, B1⟩
  · rcases rightT_cases hr with rfl | rfl | ⟨rfl, m1, m2⟩
    · have hp : Hid (printT 1 m = [105, 110, 116]) := Lib.hid (by rw [printT, hr]; rfl)
      go_enter Try.func134, Try.ntmps134
      go_wp2_with fail
      refine (rightType_any 1 m _).mono ?_; rintro e w1 ⟨rfl, b1⟩
      rw [hr]
      have B1 : Below w.heap.size w w1 := bthen (by repeat (first | exact Below.refl _ _ | refine Below.alloc ?_ (by simp <;> omega) _)) b1
      have x : w1.heap[w.heap.size]? = some (.cells #[.int .i64 1, .int .i64 m] 25 (0, 0)) := box_next (by repeat (first | (refine alloc_at ?_; simp; done) | refine alloc_old' ?_)) b1
      have xc0 : w1.cell? ⟨w.heap.size, 0, none⟩ = some (.int .i64 1) := by rw [Lib.cell_of_heap x]; rfl
      have xf0 : w1.frozen? ⟨w.heap.size, 0, none⟩ = false := Lib.frozen_of_heap x 0
      have xc1 : w1.cell? ⟨w.heap.size, 1, none⟩ = some (.int .i64 m) := by rw [Lib.cell_of_heap x]; rfl
      have xf1 : w1.frozen? ⟨w.heap.size, 1, none⟩ = false := Lib.frozen_of_heap x 1
      go_wp2_with fail
      go_ret
      exact ⟨by rw [hp.out]; rfl, B1⟩
    · have hp : Hid (printT 2 m = [98, 111, 111, 108]) := Lib.hid (by rw [printT, hr]; rfl)
      go_enter Try.func134, Try.ntmps134
      go_wp2_with fail
      refine (rightType_any 2 m _).mono ?_; rintro e w1 ⟨rfl, b1⟩
      rw [hr]
      have B1 : Below w.heap.size w w1 := bthen (by repeat (first | exact Below.refl _ _ | refine Below.alloc ?_ (by simp <;> omega) _)) b1
      have x : w1.heap[w.heap.size]? = some (.cells #[.int .i64 2, .int .i64 m] 25 (0, 0)) := box_next (by repeat (first | (refine alloc_at ?_; simp; done) | refine alloc_old' ?_)) b1
      have xc0 : w1.cell? ⟨w.heap.size, 0, none⟩ = some (.int .i64 2) := by rw [Lib.cell_of_heap x]; rfl
      have xf0 : w1.frozen? ⟨w.heap.size, 0, none⟩ = false := Lib.frozen_of_heap x 0
      have xc1 : w1.cell? ⟨w.heap.size, 1, none⟩ = some (.int .i64 m) := by rw [Lib.cell_of_heap x]; rfl
      have xf1 : w1.frozen? ⟨w.heap.size, 1, none⟩ = false := Lib.frozen_of_heap x 1
      go_wp2_with fail
      go_ret
      exact ⟨by rw [hp.out]; rfl, B1⟩
    · have hp : Hid (printT 3 m = [116, 101, 120, 116, 32] ++ decL m) := Lib.hid (by rw [printT, hr]; rfl)
      have hl := digN_len20 m.natAbs (by omega)
      have hl2 : (decL m).length ≤ 21 := by unfold decL; split <;> first | omega | (simp; omega)
      have hlim : (5 : Nat) + (decL m).length ≤ 9223372036854775807 := by omega
      go_enter Try.func134, Try.ntmps134
      go_wp2_with fail
      refine (rightType_any 3 m _).mono ?_; rintro e w1 ⟨rfl, b1⟩
      rw [hr]
      have B1 : Below w.heap.size w w1 := bthen (by repeat (first | exact Below.refl _ _ | refine Below.alloc ?_ (by simp <;> omega) _)) b1
      have x : w1.heap[w.heap.size]? = some (.cells #[.int .i64 3, .int .i64 m] 25 (0, 0)) := box_next (by repeat (first | (refine alloc_at ?_; simp; done) | refine alloc_old' ?_)) b1
      have xc0 : w1.cell? ⟨w.heap.size, 0, none⟩ = some (.int .i64 3) := by rw [Lib.cell_of_heap x]; rfl
      have xf0 : w1.frozen? ⟨w.heap.size, 0, none⟩ = false := Lib.frozen_of_heap x 0
      have xc1 : w1.cell? ⟨w.heap.size, 1, none⟩ = some (.int .i64 m) := by rw [Lib.cell_of_heap x]; rfl
      have xf1 : w1.frozen? ⟨w.heap.size, 1, none⟩ = false := Lib.frozen_of_heap x 1
      go_wp2_with fail
      refine (dec_any m _ (by omega) (by omega)).mono ?_; rintro e w2 ⟨rfl, b2⟩
      go_wp2_with fail
      go_ret
      rw [show (ByteArray.mk #[116, 101, 120, 116, 32]) = ByteArray.mk [116, 101, 120, 116, 32].toArray from rfl, ba_append]
      exact ⟨by rw [hp.out]; rfl, bthen B1 b2⟩
end Go.Proofs.Ytpkoijlbbfffiaa.S
