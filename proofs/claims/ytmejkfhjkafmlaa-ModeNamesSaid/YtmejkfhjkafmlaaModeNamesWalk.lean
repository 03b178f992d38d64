/- ModeNames' walk: for every number and every name it returns true. -/
import Derived.Test.YtmejkfhjkafmlaaModeNames
namespace Go.Proofs.Ytmejkfhjkafmlaa.modeNames
open Go.RowKit M

def parW (m : Int) : Int := if m = 1 ∨ m = 3 then 1 else if m = 2 ∨ m = 4 ∨ m = 5 then 2 else 0
theorem par_same (m : Int) : parI m = parW m := by
  by_cases h : 1 ≤ m ∧ m ≤ 5
  · obtain rfl | rfl | rfl | rfl | rfl : m = 1 ∨ m = 2 ∨ m = 3 ∨ m = 4 ∨ m = 5 := by omega
    all_goals decide +kernel
  · have : isB m = false := by simp [isB]; omega
    have e : parI m = 0 := by simp [parI, this]
    rw [e, parW, if_neg (by omega), if_neg (by omega)]

theorem step_if {t : Int} {k : Nat} (h : ¬ (k : Int) + 1 = t) : (if t ≤ (k : Int) then t else 0) = if t ≤ ((k + 1 : Nat) : Int) then t else 0 := by
  by_cases g : t ≤ (k : Int)
  · rw [if_pos g, if_pos (by omega)]
  · rw [if_neg g, if_neg (by omega)]

set_option maxHeartbeats 1000000 in
theorem walk (m : Int) (s : ByteArray) (w : World) (_ : (Lit.int .i64 m).wf = true) (_ : s.size ≤ maxLen) :
    Calls Try.prog 7 #[.int .i64 m, .string s] w fun e w' => e = .returned (.bool true) ∧ Below w.heap.size w w' := by
  obtain ⟨t, ht⟩ := tgt_of s
  have hof := of_any s t w ht
  obtain ⟨t0, t5, hq⟩ := ht
  have HQ := Lib.hid hq; have HOF := Lib.hid hof; clear hq hof
  go_enter Try.func7, Try.ntmps7
  go_wp2_with fail
  refine HOF.out.mono ?_; rintro e w1 ⟨rfl, hb1⟩
  clear HOF
  go_wp2_with fail
  go_loop [7, 8] (fun v i => ∃ k : Nat, k ≤ 5 ∧ i = .int .i64 (k + 1) ∧ v = .int .i64 (if t ≤ k then t else 0)) (fun _ i => (7 - intOf i).toNat)
  case atStart => exact ⟨0, by omega, by simp, by by_cases h : t = 0 <;> simp [h] <;> omega⟩
  case round =>
    obtain ⟨k, hk, rfl, rfl⟩ := hrel
    by_cases h5 : k = 5
    · subst h5
      have e5 : (if t ≤ ((5 : Nat) : Int) then t else 0) = t := if_pos (by omega)
      rw [e5]; clear e5
      by_cases h : m = 1 ∨ m = 2 ∨ m = 3 ∨ m = 4 ∨ m = 5
      · rcases h with rfl | rfl | rfl | rfl | rfl
        all_goals
          have p1 : (parI 1 == 1) = true := by decide +kernel
          have p2 : (parI 2 == 2) = true := by decide +kernel
          have p3 : (parI 3 == 1) = true := by decide +kernel
          have p4 : (parI 4 == 2) = true := by decide +kernel
          have p5 : (parI 5 == 2) = true := by decide +kernel
          go_wp2_with (first
            | (go_at_call 31; refine (refName_any _ _).mono ?_; rintro e w' ⟨rfl, rfl⟩)
            | (go_at_call 32; refine (acc (w0 := w) (by assumption) (name_any _ _)).mono ?_; rintro e _ ⟨rfl, _⟩)
            | (go_at_call 17; refine (acc (w0 := w) (by assumption) (parent_any _ _)).mono ?_; rintro e _ ⟨rfl, _⟩)
            | (go_at_call 14; refine (acc (w0 := w) (by assumption) (lives_any _)).mono ?_; rintro e _ ⟨rfl, _⟩))
          go_ret
          exact ⟨rfl, by assumption⟩
      · simp only [not_or] at h
        obtain ⟨h1, h2, h3, h4, h5⟩ := h
        have hp : (parI m == 0) = true := beq_iff_eq.2 ((par_same m).trans (by rw [parW, if_neg (by omega), if_neg (by omega)]))
        have g1 : (m == 1) = false := by simpa using h1
        have g2 : (m == 2) = false := by simpa using h2
        have g3 : (m == 3) = false := by simpa using h3
        have g4 : (m == 4) = false := by simpa using h4
        have g5 : (m == 5) = false := by simpa using h5
        clear h1 h2 h3 h4 h5
        go_wp2_with (first
          | (go_at_call 31; refine (refName_any _ _).mono ?_; rintro e w' ⟨rfl, rfl⟩)
          | (go_at_call 32; refine (acc (w0 := w) (by assumption) (name_any _ _)).mono ?_; rintro e _ ⟨rfl, _⟩)
          | (go_at_call 17; refine (acc (w0 := w) (by assumption) (parent_any _ _)).mono ?_; rintro e _ ⟨rfl, _⟩)
          | (go_at_call 14; refine (acc (w0 := w) (by assumption) (lives_any _)).mono ?_; rintro e _ ⟨rfl, _⟩))
        go_ret
        exact ⟨rfl, by assumption⟩
    · have hlt : k < 5 := by omega
      have hq := HQ.out (k + 1) (by omega) (by omega)
      by_cases he : (k : Int) + 1 = t
      · have g : ((nmS (k + 1)).toList == s.toList) = true := beq_iff_eq.2 (hq.2 he)
        clear hq
        have HE := Lib.hid he
        clear he
        go_wp2_with (go_at_call 31; refine (refName_any _ _).mono ?_; rintro e w' ⟨rfl, rfl⟩)
        go_round
        case rel => exact ⟨k + 1, by omega, by go_num, by rw [← HE.out, if_pos (by omega)]⟩
        case measure => simp [intOf]; omega
      · have g : ((nmS (k + 1)).toList == s.toList) = false := beq_eq_false_iff_ne.2 fun e => he (hq.1 e)
        clear hq
        have E : Hid ((if t ≤ (k : Int) then t else 0) = if t ≤ ((k + 1 : Nat) : Int) then t else 0) := Lib.hid (step_if (by omega))
        go_wp2_with (go_at_call 31; refine (refName_any _ _).mono ?_; rintro e w' ⟨rfl, rfl⟩)
        go_round
        case rel => exact ⟨k + 1, by omega, by go_num, by rw [E.out]⟩
        case measure => simp [intOf]; omega
end Go.Proofs.Ytmejkfhjkafmlaa.modeNames
