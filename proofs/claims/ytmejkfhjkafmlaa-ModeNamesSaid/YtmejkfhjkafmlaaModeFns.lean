/- The contracts of package mode's functions Is, lets, Covers, Join, harms, Goes, Parent: what each returns, for every number; old memory is left as it was. -/
import Derived.Test.YtmejkfhjkafmlaaBase
namespace Go.Proofs.Ytmejkfhjkafmlaa.M
open Go.RowKit

def isB (m : Int) : Bool := decide (1 ≤ m) && decide (m ≤ 5)
def letsI (m : Int) : Int := if m = 1 then 1 else if m = 2 then 3 else if m = 3 then 5 else if m = 4 then 7 else if m = 5 then 15 else 0
def covB (a b : Int) : Bool := isB a && isB b && (bits .and .i64 (letsI a) (letsI b) == letsI b)

theorem isB_yes {m : Int} (h : isB m = true) : 1 ≤ m ∧ m ≤ 5 := by simpa [isB] using h
theorem isB_no {m : Int} (h : isB m = false) : m < 1 ∨ 5 < m := by simp [isB] at h; omega

theorem is_any (m : Int) (w : World) : Calls Try.prog 12 #[.int .i64 m] w fun e w' => e = .returned (.bool (isB m)) ∧ w = w' := by
  by_cases h1 : 1 ≤ m
  · by_cases h2 : m ≤ 5
    · have e : isB m = true := by simp [isB, h1, h2]
      go_enter Try.func12, Try.ntmps12
      go_wp2
      go_ret
      exact ⟨by simp [isB, h1, h2], rfl⟩
    · go_enter Try.func12, Try.ntmps12
      go_wp2
      go_ret
      exact ⟨by simp [isB, h1, h2], rfl⟩
  · go_enter Try.func12, Try.ntmps12
    go_wp2
    go_ret
    exact ⟨by have : isB m = false := by simp [isB]; omega
              rw [this]; rfl, rfl⟩

theorem lets_no (m : Int) (w : World) (h : isB m = false) : Calls Try.prog 42 #[.int .i64 m] w fun e w' => e = .returned (.int .i64 (letsI m)) ∧ Below w.heap.size w w' := by
  have hl : letsI m = 0 := by
    have := isB_no h
    unfold letsI; repeat' (split; · omega)
    rfl
  rw [hl]; clear hl
  go_enter Try.func42, Try.ntmps42
  go_wp2_with (go_at_call 12; refine (is_any _ _).mono ?_; rintro e w' ⟨rfl, rfl⟩)
  go_ret
  exact ⟨rfl, (Below.refl _ _).alloc (Nat.le_refl _) _⟩
theorem lets_yes (m : Int) (w : World) (h : m = 1 ∨ m = 2 ∨ m = 3 ∨ m = 4 ∨ m = 5) : Calls Try.prog 42 #[.int .i64 m] w fun e w' => e = .returned (.int .i64 (letsI m)) ∧ Below w.heap.size w w' := by
  rcases h with rfl | rfl | rfl | rfl | rfl
  all_goals
    go_enter Try.func42, Try.ntmps42
    go_wp2
    go_ret
    exact ⟨rfl, (Below.refl _ _).alloc (Nat.le_refl _) _⟩
theorem lets_any (m : Int) (w : World) : Calls Try.prog 42 #[.int .i64 m] w fun e w' => e = .returned (.int .i64 (letsI m)) ∧ Below w.heap.size w w' := by
  cases h : isB m
  · exact lets_no m w h
  · exact lets_yes m w (by have := isB_yes h; omega)

set_option maxHeartbeats 400000 in
theorem covers_any (a b : Int) (w : World) : Calls Try.prog 16 #[.int .i64 a, .int .i64 b] w fun e w' => e = .returned (.bool (covB a b)) ∧ Below w.heap.size w w' := by
  cases ha : isB a
  · have hc : covB a b = false := by simp [covB, ha]
    have H := Lib.hid hc; clear hc
    go_enter Try.func16, Try.ntmps16
    go_wp2_with (go_at_call 12; refine (is_any _ _).mono ?_; rintro e w' ⟨rfl, rfl⟩)
    go_ret
    exact ⟨by rw [H.out]; rfl, Below.refl _ _⟩
  · cases hb : isB b
    · have hc : covB a b = false := by simp [covB, hb]
      have H := Lib.hid hc; clear hc
      go_enter Try.func16, Try.ntmps16
      go_wp2_with (go_at_call 12; refine (is_any _ _).mono ?_; rintro e w' ⟨rfl, rfl⟩)
      go_ret
      exact ⟨by rw [H.out]; rfl, Below.refl _ _⟩
    · have hc : covB a b = (bits .and .i64 (letsI a) (letsI b) == letsI b) := by simp [covB, ha, hb]
      have H := Lib.hid hc; clear hc
      go_enter Try.func16, Try.ntmps16
      go_wp2_with (first | (go_at_call 12; refine (is_any _ _).mono ?_; rintro e w' ⟨rfl, rfl⟩) | fail)
      refine (lets_any _ _).mono ?_; rintro e w1 ⟨rfl, hb1⟩
      go_wp2_with fail
      refine (lets_any _ _).mono ?_; rintro e w2 ⟨rfl, hb2⟩
      go_wp2_with fail
      refine (lets_any _ _).mono ?_; rintro e w3 ⟨rfl, hb3⟩
      go_wp2_with fail
      go_ret
      exact ⟨by rw [H.out]; rfl, bthen (bthen hb1 hb2) hb3⟩

/-- The join, round by round: the first mode from m on that covers both. -/
def joinFrom (a b : Int) : Nat → Int → Int
  | 0, _ => 0
  | f + 1, m => if covB m a && covB m b then m else joinFrom a b f (m + 1)
def joinI (a b : Int) : Int := joinFrom a b 5 1

set_option maxHeartbeats 400000 in
theorem join_any (a b : Int) (w : World) : Calls Try.prog 13 #[.int .i64 a, .int .i64 b] w fun e w' => e = .returned (.int .i64 (joinI a b)) ∧ Below w.heap.size w w' := by
  go_enter Try.func13, Try.ntmps13
  go_wp2
  go_loopw [5] (fun m wr => ∃ k : Nat, k ≤ 5 ∧ m = .int .i64 (k + 1) ∧ Hid (joinI a b = joinFrom a b (5 - k) (k + 1)) ∧ Below w.heap.size w wr) (fun m _ => (7 - intOf m).toNat)
  case atStart => exact ⟨0, by omega, rfl, rfl, Below.refl _ _⟩
  case round =>
    obtain ⟨k, hk, rfl, hj, hb⟩ := hrel
    by_cases h5 : k = 5
    · subst h5
      go_wp2
      go_ret
      exact ⟨by rw [hj.out]; rfl, hb⟩
    · have hlt : k < 5 := by omega
      clear h5
      have ej : joinFrom a b (5 - k) (k + 1) = if covB (k + 1) a && covB (k + 1) b then ((k : Int) + 1) else joinFrom a b (5 - (k + 1)) (k + 1 + 1) := by
        rw [show 5 - k = (5 - (k + 1)) + 1 by omega]; rfl
      have EJ := Lib.hid (hj.out.trans ej)
      clear ej hj
      cases h1 : covB (k + 1) a
      · go_wp2_with (go_at_call 16; refine (covers_any _ _ _).mono ?_; rintro e w1 ⟨rfl, hb1⟩)
        go_roundw
        case rel => exact ⟨k + 1, by omega, by go_num, Lib.hid (by have := EJ.out; rw [h1] at this; simpa using this), hb.trans (hb1.mono hb.size)⟩
        case measure => simp [intOf]; omega
      · cases h2 : covB (k + 1) b
        · go_wp2_with fail
          refine (covers_any _ _ _).mono ?_; rintro e w1 ⟨rfl, hb1⟩
          go_wp2_with fail
          refine (covers_any _ _ _).mono ?_; rintro e w2 ⟨rfl, hb2⟩
          go_wp2_with fail
          go_roundw
          case rel => exact ⟨k + 1, by omega, by go_num, Lib.hid (by have := EJ.out; rw [h1, h2] at this; simpa using this), hb.trans ((bthen hb1 hb2).mono hb.size)⟩
          case measure => simp [intOf]; omega
        · go_wp2_with fail
          refine (covers_any _ _ _).mono ?_; rintro e w1 ⟨rfl, hb1⟩
          go_wp2_with fail
          refine (covers_any _ _ _).mono ?_; rintro e w2 ⟨rfl, hb2⟩
          go_wp2_with fail
          go_ret
          exact ⟨by rw [EJ.out, h1, h2]; rfl, hb.trans ((bthen hb1 hb2).mono hb.size)⟩

def harmB (a b : Int) : Bool := (bits .and .i64 (letsI a) 2 != 0) && (bits .and .i64 (letsI b) 4 != 0) || (bits .and .i64 (letsI a) 8 != 0)
def goesB (a b : Int) : Bool := isB a && isB b && !harmB a b && !harmB b a
set_option maxHeartbeats 400000 in
theorem harms_any (a b : Int) (w : World) : Calls Try.prog 41 #[.int .i64 a, .int .i64 b] w fun e w' => e = .returned (.bool (harmB a b)) ∧ Below w.heap.size w w' := by
  go_enter Try.func41, Try.ntmps41
  go_wp2_with fail
  refine (lets_any _ _).mono ?_; rintro e w1 ⟨rfl, hb1⟩
  go_wp2_with fail
  refine (lets_any _ _).mono ?_; rintro e w2 ⟨rfl, hb2⟩
  cases h1 : (bits .and .i64 (letsI a) 2 != 0) <;> cases h2 : (bits .and .i64 (letsI b) 4 != 0) <;> cases h3 : (bits .and .i64 (letsI a) 8 != 0)
  all_goals
    go_wp2_with fail
    go_ret
    exact ⟨by simp [harmB, h1, h2, h3], bthen hb1 hb2⟩

set_option maxHeartbeats 400000 in
theorem goes_any (a b : Int) (w : World) : Calls Try.prog 15 #[.int .i64 a, .int .i64 b] w fun e w' => e = .returned (.bool (goesB a b)) ∧ Below w.heap.size w w' := by
  cases ha : isB a
  · go_enter Try.func15, Try.ntmps15
    go_wp2_with (go_at_call 12; refine (is_any _ _).mono ?_; rintro e w' ⟨rfl, rfl⟩)
    go_ret
    exact ⟨by simp [goesB, ha], Below.refl _ _⟩
  · cases hb : isB b
    · go_enter Try.func15, Try.ntmps15
      go_wp2_with (go_at_call 12; refine (is_any _ _).mono ?_; rintro e w' ⟨rfl, rfl⟩)
      go_ret
      exact ⟨by simp [goesB, hb], Below.refl _ _⟩
    · cases h1 : harmB a b
      · go_enter Try.func15, Try.ntmps15
        go_wp2_with (go_at_call 12; refine (is_any _ _).mono ?_; rintro e w' ⟨rfl, rfl⟩)
        refine (harms_any _ _ _).mono ?_; rintro e w1 ⟨rfl, hb1⟩
        go_wp2_with fail
        refine (harms_any _ _ _).mono ?_; rintro e w2 ⟨rfl, hb2⟩
        go_wp2_with fail
        go_ret
        exact ⟨by simp [goesB, ha, hb, h1], bthen hb1 hb2⟩
      · go_enter Try.func15, Try.ntmps15
        go_wp2_with (go_at_call 12; refine (is_any _ _).mono ?_; rintro e w' ⟨rfl, rfl⟩)
        refine (harms_any _ _ _).mono ?_; rintro e w1 ⟨rfl, hb1⟩
        go_wp2_with fail
        go_ret
        exact ⟨by simp [goesB, h1], hb1⟩

def parI (m : Int) : Int := if isB m then (if bits .and .i64 (letsI m) 2 != 0 then 2 else 1) else 0
set_option maxHeartbeats 400000 in
theorem parent_any (m : Int) (w : World) : Calls Try.prog 17 #[.int .i64 m] w fun e w' => e = .returned (.int .i64 (parI m)) ∧ Below w.heap.size w w' := by
  cases ha : isB m
  · go_enter Try.func17, Try.ntmps17
    go_wp2_with (go_at_call 12; refine (is_any _ _).mono ?_; rintro e w' ⟨rfl, rfl⟩)
    go_ret
    exact ⟨by simp [parI, ha], Below.refl _ _⟩
  · cases h1 : (bits .and .i64 (letsI m) 2 != 0)
    all_goals
      go_enter Try.func17, Try.ntmps17
      go_wp2_with (go_at_call 12; refine (is_any _ _).mono ?_; rintro e w' ⟨rfl, rfl⟩)
      refine (lets_any _ _).mono ?_; rintro e w1 ⟨rfl, hb1⟩
      go_wp2_with fail
      go_ret
      exact ⟨by simp [parI, ha, h1], hb1⟩

theorem lives_any (w : World) : Calls Try.prog 14 #[] w fun e w' => e = .returned (.bool true) ∧ Below w.heap.size w w' := by
  have h1 : (joinI 2 3 == 4) = true := by decide +kernel
  have h2 : goesB 1 4 = true := by decide +kernel
  go_enter Try.func14, Try.ntmps14
  go_wp2_with fail
  refine (join_any _ _ _).mono ?_; rintro e w1 ⟨rfl, hb1⟩
  go_wp2_with fail
  refine (goes_any _ _ _).mono ?_; rintro e w2 ⟨rfl, hb2⟩
  go_wp2_with fail
  go_ret
  exact ⟨rfl, bthen hb1 hb2⟩
end Go.Proofs.Ytmejkfhjkafmlaa.M
