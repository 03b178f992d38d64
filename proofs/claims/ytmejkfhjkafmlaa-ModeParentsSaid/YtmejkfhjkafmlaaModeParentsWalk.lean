/- ModeParents' walk: for every two numbers it returns true. -/
import Derived.Test.YtmejkfhjkafmlaaModeFns
namespace Go.Proofs.Ytmejkfhjkafmlaa.modeParents
open Go.RowKit M

theorem five {a : Int} (h : isB a = true) : a = 1 ∨ a = 2 ∨ a = 3 ∨ a = 4 ∨ a = 5 := by have := isB_yes h; omega
def Good (a b : Int) : Bool := (!covB a b || covB (parI a) (parI b)) && goesB (parI a) (parI b) && (parI (parI a) == parI a)
theorem good_all {a b : Int} (ha : isB a = true) (hb : isB b = true) : Good a b = true := by
  rcases five ha with rfl | rfl | rfl | rfl | rfl <;> rcases five hb with rfl | rfl | rfl | rfl | rfl <;> decide +kernel

set_option maxHeartbeats 1000000 in
theorem walk (a b : Int) (w : World) (_ : (Lit.int .i64 a).wf = true) (_ : (Lit.int .i64 b).wf = true) :
    Calls Try.prog 4 #[.int .i64 a, .int .i64 b] w fun e w' => e = .returned (.bool true) ∧ Below w.heap.size w w' := by
  have hb0 := Below.refl w.heap.size w
  have pa : isB a = false → parI a = 0 := fun h => by simp [parI, h]
  have pb : isB b = false → parI b = 0 := fun h => by simp [parI, h]
  have gd := fun ha hb => good_all (a := a) (b := b) ha hb
  cases ha : isB a <;> cases hb : isB b
  case true.true =>
    have hg := gd ha hb
    clear pa pb gd
    simp only [Good, Bool.and_eq_true] at hg
    obtain ⟨⟨g1, g2⟩, g3⟩ := hg
    have n3 : parI (parI a) = parI a := by simpa using g3
    clear g3
    cases c1 : covB a b
    all_goals
      simp only [c1, Bool.not_true, Bool.false_or] at g1
      go_enter Try.func4, Try.ntmps4
      go_wp2_with (first
        | (go_at_call 12; refine (is_any _ _).mono ?_; rintro e w' ⟨rfl, rfl⟩)
        | (go_at_call 17; refine (acc (w0 := w) (by assumption) (parent_any _ _)).mono ?_; rintro e _ ⟨rfl, _⟩)
        | (go_at_call 15; refine (acc (w0 := w) (by assumption) (goes_any _ _ _)).mono ?_; rintro e _ ⟨rfl, _⟩)
        | (go_at_call 16; refine (acc (w0 := w) (by assumption) (covers_any _ _ _)).mono ?_; rintro e _ ⟨rfl, _⟩)
        | (go_at_call 14; refine (acc (w0 := w) (by assumption) (lives_any _)).mono ?_; rintro e _ ⟨rfl, _⟩))
      go_ret
      exact ⟨rfl, by assumption⟩
  all_goals
    clear gd
    first | have pa1 := pa ha | skip
    first | have pb1 := pb hb | skip
    clear pa pb
    go_enter Try.func4, Try.ntmps4
    go_wp2_with (first
      | (go_at_call 12; refine (is_any _ _).mono ?_; rintro e w' ⟨rfl, rfl⟩)
      | (go_at_call 17; refine (acc (w0 := w) (by assumption) (parent_any _ _)).mono ?_; rintro e _ ⟨rfl, _⟩)
      | (go_at_call 14; refine (acc (w0 := w) (by assumption) (lives_any _)).mono ?_; rintro e _ ⟨rfl, _⟩))
    go_ret
    exact ⟨rfl, by assumption⟩
end Go.Proofs.Ytmejkfhjkafmlaa.modeParents
