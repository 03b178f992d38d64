/- The contracts of mode.names, mode.Name, mode.Of and the reference's Name. -/
import Derived.Test.YtmejkfhjkafmlaaModeFns
import Derived.Outline
namespace Go.Proofs.Ytmejkfhjkafmlaa.M
open Go.RowKit

def nmS (m : Int) : ByteArray := if m = 1 then ⟨#[73, 83]⟩ else if m = 2 then ⟨#[73, 88]⟩ else if m = 3 then ⟨#[83]⟩ else if m = 4 then ⟨#[83, 73, 88]⟩ else if m = 5 then ⟨#[88]⟩ else ⟨#[]⟩
def nms : Value := .agg #[.string ⟨#[]⟩, .string ⟨#[73, 83]⟩, .string ⟨#[73, 88]⟩, .string ⟨#[83]⟩, .string ⟨#[83, 73, 88]⟩, .string ⟨#[88]⟩]

theorem names_any (w : World) : Calls Try.prog 45 #[] w fun e w' => e = .returned nms ∧ Below w.heap.size w w' := by
  unfold nms
  go_enter Try.func45, Try.ntmps45
  go_wp2
  refine bodyPost_ret (v := nms) (by simp [results, Try.results45, go_sem, nms]) rfl ⟨rfl, (Below.refl _ _).alloc (Nat.le_refl _) _⟩
theorem nms_at (k : Int) (h : 0 ≤ k ∧ k ≤ 5) (w : World) : (Instr.index 67 nms (.int .i64 k)).run Try.prog w = .ok (.string (nmS k)) w := by
  obtain rfl | rfl | rfl | rfl | rfl | rfl : k = 0 ∨ k = 1 ∨ k = 2 ∨ k = 3 ∨ k = 4 ∨ k = 5 := by omega
  all_goals kernel_rfl

theorem refName_any (m : Int) (w : World) : Calls Try.prog 31 #[.int .i64 m] w fun e w' => e = .returned (.string (nmS m)) ∧ w = w' := by
  by_cases h : m = 1 ∨ m = 2 ∨ m = 3 ∨ m = 4 ∨ m = 5
  · rcases h with rfl | rfl | rfl | rfl | rfl
    all_goals
      go_enter Try.func31, Try.ntmps31
      go_wp2
      go_ret
      exact ⟨rfl, rfl⟩
  · simp only [not_or] at h
    obtain ⟨h1, h2, h3, h4, h5⟩ := h
    have e : nmS m = ⟨#[]⟩ := by simp [nmS, h1, h2, h3, h4, h5]
    rw [e]; clear e
    have g1 : (m == 1) = false := by simpa using h1
    have g2 : (m == 2) = false := by simpa using h2
    have g3 : (m == 3) = false := by simpa using h3
    have g4 : (m == 4) = false := by simpa using h4
    have g5 : (m == 5) = false := by simpa using h5
    clear h1 h2 h3 h4 h5
    go_enter Try.func31, Try.ntmps31
    go_wp2
    go_ret
    exact ⟨rfl, rfl⟩
theorem name_any (m : Int) (w : World) : Calls Try.prog 32 #[.int .i64 m] w fun e w' => e = .returned (.string (nmS m)) ∧ Below w.heap.size w w' := by
  cases h : isB m
  · have e : nmS m = ⟨#[]⟩ := by
      have := isB_no h
      unfold nmS; repeat' (split; · omega)
      rfl
    rw [e]; clear e
    go_enter Try.func32, Try.ntmps32
    go_wp2_with (go_at_call 12; refine (is_any _ _).mono ?_; rintro e w' ⟨rfl, rfl⟩)
    go_ret
    exact ⟨rfl, Below.refl _ _⟩
  · have hx := nms_at m (by have := isB_yes h; omega)
    go_enter Try.func32, Try.ntmps32
    go_wp2_with (first
      | (go_at_call 12; refine (is_any _ _).mono ?_; rintro e w' ⟨rfl, rfl⟩)
      | (go_at_call 45; refine (names_any _).mono ?_; rintro e w' ⟨rfl, hb⟩))
    go_ret
    exact ⟨rfl, hb⟩

/-- Which mode bears this name; 0: none. -/
def Tgt (s : ByteArray) (t : Int) : Prop := 0 ≤ t ∧ t ≤ 5 ∧ ∀ j : Int, 1 ≤ j → j ≤ 5 → ((nmS j).toList = s.toList ↔ j = t)
theorem tgt_of (s : ByteArray) : ∃ t, Tgt s t := by
  by_cases h : ∃ t : Int, 1 ≤ t ∧ t ≤ 5 ∧ (nmS t).toList = s.toList
  · obtain ⟨t, h1, h2, h3⟩ := h
    refine ⟨t, by omega, h2, fun j j1 j2 => ?_⟩
    rw [← h3, ByteArray.toList_eq, ByteArray.toList_eq]
    obtain rfl | rfl | rfl | rfl | rfl : j = 1 ∨ j = 2 ∨ j = 3 ∨ j = 4 ∨ j = 5 := by omega
    all_goals
      obtain rfl | rfl | rfl | rfl | rfl : t = 1 ∨ t = 2 ∨ t = 3 ∨ t = 4 ∨ t = 5 := by omega
      all_goals decide
  · refine ⟨0, by omega, by omega, fun j j1 j2 => ⟨fun e => (h ⟨j, j1, j2, e⟩).elim, fun e => by omega⟩⟩

set_option maxHeartbeats 400000 in
theorem of_any (s : ByteArray) (t : Int) (w : World) (h : Tgt s t) :
    Calls Try.prog 30 #[.string s] w fun e w' => e = .returned (.tuple #[.int .i64 t, .bool (decide (0 < t))]) ∧ Below w.heap.size w w' := by
  obtain ⟨t0, t5, ht⟩ := h
  have H := Lib.hid ht; clear ht
  go_enter Try.func30, Try.ntmps30
  go_wp2_with (go_at_call 45; refine (names_any _).mono ?_; rintro e w' ⟨rfl, hb⟩)
  go_loop [4, 5, 7] (fun _ _ i => ∃ k : Nat, k ≤ 6 ∧ i = .int .i64 k ∧ Hid (0 < t → (k : Int) ≤ t)) (fun _ _ i => (6 - intOf i).toNat)
  case atStart => exact ⟨0, by omega, rfl, Lib.hid (fun _ => by omega)⟩
  case round =>
    obtain ⟨k, hk, rfl, hle⟩ := hrel
    by_cases h6 : k = 6
    · subst h6
      have e0 : t = 0 := by have := hle.out; omega
      subst e0
      go_wp2
      go_ret2
      exact ⟨rfl, hb⟩
    · have hlt : k < 6 := by omega
      have hx := nms_at k (by omega)
      have hq := H.out k
      by_cases h0 : k = 0
      · subst h0
        clear hx hq
        have hx0 := nms_at 0 (by omega)
        go_wp2
        all_goals
          go_round
          case rel => exact ⟨1, by omega, by go_num, Lib.hid (fun h => by omega)⟩
          case measure => simp [intOf]
      · have hk0 : 0 < k := by omega
        have hq := hq (by omega) (by omega)
        by_cases he : (k : Int) = t
        · have g : (nmS k).toList = s.toList := hq.2 he
          clear hq
          have HE := Lib.hid he
          clear he
          go_wp2
          go_ret2
          exact ⟨by rw [← HE.out]; simp [hk0], hb⟩
        · have g : ¬ (nmS k).toList = s.toList := fun e => he (hq.1 e)
          clear hq
          go_wp2
          go_round
          case rel => exact ⟨k + 1, by omega, by go_num, Lib.hid (fun h => by have := hle.out h; omega)⟩
          case measure => simp [intOf]; omega
end Go.Proofs.Ytmejkfhjkafmlaa.M
