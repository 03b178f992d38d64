/- Whether tables may be, in plain Lean: the first error, and where. No program in sight. -/
import Derived.Test.YtpkoijlbbfffiaaSchPlain
namespace Go.Proofs.Ytpkoijlbbfffiaa.R
open O V

def idxI {α : Type} (p : α → Bool) : List α → Int
  | [] => -1
  | a :: l => if p a then 0 else if idxI p l < 0 then -1 else idxI p l + 1
theorem idxI_ge {α : Type} (p : α → Bool) : ∀ (l : List α), -1 ≤ idxI p l ∧ (idxI p l < l.length)
  | [] => by simp [idxI]
  | a :: l => by
    have := idxI_ge p l
    unfold idxI
    split
    · simp
    · split <;> (simp; omega)
theorem idxI_no {α : Type} {p : α → Bool} : ∀ {l : List α}, l.any p = false → idxI p l = -1
  | [], _ => rfl
  | a :: l, h => by
    simp only [List.any_cons, Bool.or_eq_false_iff] at h
    unfold idxI
    rw [h.1, idxI_no h.2]
    rfl
theorem idxI_lt {α : Type} {p : α → Bool} : ∀ {l : List α} {i : Nat} (h : i < l.length), p l[i] = true → 0 ≤ idxI p l ∧ idxI p l ≤ i ∧ (idxI p l < i ↔ (l.take i).any p = true)
  | a :: l, 0, h, hp => by
    have e : idxI p (a :: l) = 0 := by unfold idxI; rw [if_pos (by simpa using hp)]
    rw [e]; simp
  | a :: l, i + 1, h, hp => by
    by_cases ha : p a = true
    · have e : idxI p (a :: l) = 0 := by unfold idxI; rw [if_pos ha]
      rw [e]; simp [ha]; omega
    · obtain ⟨h1, h2, h3⟩ := idxI_lt (p := p) (l := l) (i := i) (by simpa using h) (by simpa using hp)
      have e : idxI p (a :: l) = idxI p l + 1 := by conv => lhs; unfold idxI
                                                    rw [if_neg ha, if_neg (by omega)]
      rw [e]
      refine ⟨by omega, by omega, ?_⟩
      rw [List.take_succ_cons, List.any_cons]
      simp only [Bool.not_eq_true] at ha
      rw [ha, Bool.false_or, ← h3]
      omega
theorem idxI_here {α : Type} {p : α → Bool} {l : List α} {k : Nat} (h : k < l.length) (hn : (l.take k).any p = false) (hp : p l[k] = true) : idxI p l = k := by
  obtain ⟨h1, h2, h3⟩ := idxI_lt h hp
  rw [hn] at h3
  simp at h3
  omega
/-- The first index below n at which f is not 0. -/
def firstP (f : Nat → Int) (n : Nat) : Int × Nat := match (List.range n).find? (fun k => f k != 0) with
  | some k => (f k, k)
  | none => (0, 0)
theorem firstP_here {f : Nat → Int} {n k : Nat} (hk : k < n) (h0 : ∀ j, j < k → f j = 0) (h : f k ≠ 0) : firstP f n = (f k, k) := by
  unfold firstP
  rw [show (List.range n).find? (fun k => f k != 0) = some k by
    rw [List.find?_range_eq_some]
    exact ⟨by simpa using h, by simpa using hk, fun j hj => by simp [h0 j hj]⟩]
theorem firstP_none {f : Nat → Int} {n : Nat} (h0 : ∀ j, j < n → f j = 0) : firstP f n = (0, 0) := by
  unfold firstP
  rw [show (List.range n).find? (fun k => f k != 0) = none by
    rw [List.find?_eq_none]
    intro j hj
    simp at hj
    simp [h0 j hj]]
theorem firstP_lt (f : Nat → Int) (n : Nat) (hn : n ≤ 9223372036854775807) : ((firstP f n).2 : Int) ≤ 9223372036854775807 := by
  unfold firstP
  split
  · rename_i k hk
    have := List.mem_of_find?_eq_some hk
    simp at this
    simp; omega
  · simp
theorem zero_step {f : Nat → Int} {k : Nat} (h0 : ∀ j, j < k → f j = 0) (h : f k = 0) : ∀ j, j < k + 1 → f j = 0 := fun j hj => by
  by_cases e : j = k
  · subst e; exact h
  · exact h0 j (by omega)
end Go.Proofs.Ytpkoijlbbfffiaa.R
