/- ModeOrder's walk: for every three numbers it returns true. -/
import Derived.Test.YtmejkfhjkafmlaaModeFns
namespace Go.Proofs.Ytmejkfhjkafmlaa.modeOrder
open Go.RowKit M

theorem five {a : Int} (h : isB a = true) : a = 1 ∨ a = 2 ∨ a = 3 ∨ a = 4 ∨ a = 5 := by have := isB_yes h; omega
def Good (a b c : Int) : Bool :=
  (goesB a b == goesB b a) && !(covB a b && goesB a c && !goesB b c) && (joinI a b == joinI b a) && (joinI a a == a) &&
  (joinI (joinI a b) c == joinI a (joinI b c)) && covB (joinI a b) a && covB (joinI a b) b && (!covB c a || !covB c b || covB c (joinI a b))
theorem good_all {a b c : Int} (ha : isB a = true) (hb : isB b = true) (hc : isB c = true) : Good a b c = true := by
  rcases five ha with rfl | rfl | rfl | rfl | rfl <;> rcases five hb with rfl | rfl | rfl | rfl | rfl <;> rcases five hc with rfl | rfl | rfl | rfl | rfl <;> decide +kernel
theorem join_zero (a : Int) : joinI a 0 = 0 := by
  have h : ∀ m, covB m 0 = false := fun m => by simp [covB, isB]
  simp [joinI, joinFrom, h]

set_option maxHeartbeats 1000000 in
theorem walk_in (a b c : Int) (w : World) (ha : isB a = true) (hb : isB b = true) (hc : isB c = true) :
    Calls Try.prog 3 #[.int .i64 a, .int .i64 b, .int .i64 c] w fun e w' => e = .returned (.bool true) ∧ Below w.heap.size w w' := by
  have hg := good_all ha hb hc
  simp only [Good, Bool.and_eq_true, Bool.not_eq_true'] at hg
  obtain ⟨⟨⟨⟨⟨⟨⟨g1, g2⟩, g3⟩, g4⟩, g5⟩, g6⟩, g7⟩, g8⟩ := hg
  have n1 : goesB b a = goesB a b := by simpa using (beq_iff_eq.1 g1).symm
  have n3 : joinI b a = joinI a b := by simpa using (beq_iff_eq.1 g3).symm
  have n4 : joinI a a = a := by simpa using g4
  have n5 : joinI (joinI a b) c = joinI a (joinI b c) := by simpa using g5
  have hb0 := Below.refl w.heap.size w
  clear g1 g3 g4 g5
  cases c1 : covB a b <;> cases c2 : goesB a c <;> cases c3 : covB c a <;> cases c4 : covB c b
  all_goals
    first
    | (exfalso; simp [c1, c2, c3, c4] at g2 g8; done)
    | skip
  all_goals
    try simp only [c1, c2, c3, c4, Bool.true_and, Bool.not_true, Bool.not_false, Bool.false_or, Bool.true_or, Bool.false_and, Bool.not_eq_false'] at g2 g8
    go_enter Try.func3, Try.ntmps3
    go_wp2_with (first
      | (go_at_call 12; refine (is_any _ _).mono ?_; rintro e w' ⟨rfl, rfl⟩)
      | (go_at_call 13; refine (acc (w0 := w) (by assumption) (join_any _ _ _)).mono ?_; rintro e _ ⟨rfl, _⟩)
      | (go_at_call 15; refine (acc (w0 := w) (by assumption) (goes_any _ _ _)).mono ?_; rintro e _ ⟨rfl, _⟩)
      | (go_at_call 16; refine (acc (w0 := w) (by assumption) (covers_any _ _ _)).mono ?_; rintro e _ ⟨rfl, _⟩)
      | (go_at_call 14; refine (acc (w0 := w) (by assumption) (lives_any _)).mono ?_; rintro e _ ⟨rfl, _⟩))
    go_ret
    exact ⟨rfl, by assumption⟩

set_option maxHeartbeats 1000000 in
theorem walk (a b c : Int) (w : World) (_ : (Lit.int .i64 a).wf = true) (_ : (Lit.int .i64 b).wf = true) (_ : (Lit.int .i64 c).wf = true) :
    Calls Try.prog 3 #[.int .i64 a, .int .i64 b, .int .i64 c] w fun e w' => e = .returned (.bool true) ∧ Below w.heap.size w w' := by
  have hz := join_zero a
  have hb0 := Below.refl w.heap.size w
  cases ha : isB a
  case true =>
    cases hb : isB b
    case true =>
      cases hc : isB c
      case true => exact walk_in a b c w ha hb hc
      case false =>
        go_enter Try.func3, Try.ntmps3
        go_wp2_with (first
          | (go_at_call 12; refine (is_any _ _).mono ?_; rintro e w' ⟨rfl, rfl⟩)
          | (go_at_call 13; refine (acc (w0 := w) (by assumption) (join_any _ _ _)).mono ?_; rintro e _ ⟨rfl, _⟩)
          | (go_at_call 14; refine (acc (w0 := w) (by assumption) (lives_any _)).mono ?_; rintro e _ ⟨rfl, _⟩))
        go_ret
        exact ⟨rfl, by assumption⟩
    case false =>
      go_enter Try.func3, Try.ntmps3
      go_wp2_with (first
        | (go_at_call 12; refine (is_any _ _).mono ?_; rintro e w' ⟨rfl, rfl⟩)
        | (go_at_call 13; refine (acc (w0 := w) (by assumption) (join_any _ _ _)).mono ?_; rintro e _ ⟨rfl, _⟩)
        | (go_at_call 14; refine (acc (w0 := w) (by assumption) (lives_any _)).mono ?_; rintro e _ ⟨rfl, _⟩))
      go_ret
      exact ⟨rfl, by assumption⟩
  case false =>
    go_enter Try.func3, Try.ntmps3
    go_wp2_with (first
      | (go_at_call 12; refine (is_any _ _).mono ?_; rintro e w' ⟨rfl, rfl⟩)
      | (go_at_call 13; refine (acc (w0 := w) (by assumption) (join_any _ _ _)).mono ?_; rintro e _ ⟨rfl, _⟩)
      | (go_at_call 14; refine (acc (w0 := w) (by assumption) (lives_any _)).mono ?_; rintro e _ ⟨rfl, _⟩))
    go_ret
    exact ⟨rfl, by assumption⟩
end Go.Proofs.Ytmejkfhjkafmlaa.modeOrder
