/- What Light and Right say of a record; shared by the walks of billhooklaw23. -/
import Derived.Test.YtpkoijlbbfffiaaRecOpen
import Derived.Test.YtpkoijlbbfffiaaRecRef
namespace Go.Proofs.Ytpkoijlbbfffiaa.R
open Go.RowKit O V

theorem light_short {r : Rec} (h : lightRec r = true) : shortR r := by
  unfold lightRec lightH at h
  simp only [Bool.and_eq_true] at h
  obtain ⟨h1, h2, h3, _, h4⟩ := h
  have f : ∀ {l : List Val}, lightR l = true → ∀ v ∈ l, v.s.length ≤ 1000000000000 := fun hl v hv => by have := (lightR_all hl).2 v hv; omega
  refine ⟨?_, fun c hc => f (List.all_eq_true.1 h4 c hc)⟩
  unfold rowsOf
  intro l hl
  simp at hl
  rcases hl with rfl | rfl | rfl
  · exact f h1
  · exact f h2
  · exact f h3
theorem hrow_facts {w : World} {A : Option Addr} {n c : Nat} {l : List Chg} (h : HRow w A n c l) : ∀ x ∈ l, (∀ v ∈ x.row, VOk v) ∧ -9223372036854775808 ≤ x.key ∧ x.key ≤ 9223372036854775807 := by
  intro x hx
  obtain ⟨k, hk, rfl⟩ := List.getElem_of_mem hx
  obtain ⟨b, off, s, _, _, hv, ho, _⟩ := h.at_ hk
  exact ⟨hv.oks, ho.2⟩
theorem rok {w : World} {r : Rec} {s : RS} (h : RecAt w r s) (hl : lightRec r = true) (hr : rightRec r = true) : ROk r := by
  rw [rightRec_eq] at hr
  unfold lightRec lightH at hl
  simp only [Bool.and_eq_true, decide_eq_true_eq] at hl hr
  obtain ⟨h1, h2, h3, h4, h5⟩ := hl
  obtain ⟨r1, r2, r3, r4, r5⟩ := hr
  refine ⟨?_, h1, h2, h3, h4, fun x hx => ?_⟩
  · simp [okN] at r1; omega
  · have g := hrow_facts h.c x hx
    have hx1 := List.all_eq_true.1 h5 x hx
    have hx2 := List.all_eq_true.1 r5 x hx
    rw [okG_eq x _ rfl] at hx2
    simp [okN] at hx2
    exact ⟨hx1, hx2.1.1, hx2.1.2, g.2.1, g.2.2, g.1⟩
theorem uintL_mono : ∀ (f a b : Nat), a < 128 ^ (f + 1) → a ≤ b → (uintL a).length ≤ (uintL b).length
  | 0, a, b, h, _ => by
    rw [uintL_lt (by simpa using h)]
    by_cases hb : b < 128
    · rw [uintL_lt hb]; simp
    · rw [uintL_ge (by omega)]; simp
  | f + 1, a, b, h, hab => by
    by_cases ha : a < 128
    · rw [uintL_lt ha]
      by_cases hb : b < 128
      · rw [uintL_lt hb]; simp
      · rw [uintL_ge (by omega)]; simp
    · rw [uintL_ge (by omega), uintL_ge (show 128 ≤ b by omega), List.length_cons, List.length_cons]
      have := uintL_mono f (a / 128) (b / 128) (by rw [Nat.pow_succ] at h; omega) (by omega)
      omega
theorem uintL_pos (a : Nat) : 0 < (uintL a).length := by
  by_cases h : a < 128
  · rw [uintL_lt h]; simp
  · rw [uintL_ge (by omega)]; simp
theorem putVal_pos {x : Val} : 0 < (putVal x).length := by
  unfold putVal
  split
  · rename_i h
    rcases right_cases h with ⟨e, _⟩ | ⟨e, _⟩ | ⟨e, _⟩
    all_goals (obtain ⟨k, n, s⟩ := x; simp only at e; subst e)
    · rw [putV_one h]; simp
    · rw [putV_two h]; simp
    · rw [putV_three h]; simp
  · simp
theorem rowCL_more (l : List Chg) (x : Chg) (h : l.length ≤ 20) : (rowCL l).length < (rowCL (l ++ [x])).length := by
  have h1 := uintL_mono 3 l.length (l.length + 1) (by omega) (by omega)
  have h2 := uintL_pos x.table.toNat
  unfold rowCL putChgs chgL
  simp
  omega
theorem rowL_more (l : List Val) (x : Val) (h : l.length ≤ 20) : (rowL l).length < (rowL (l ++ [x])).length := by
  have h1 := uintL_mono 3 l.length (l.length + 1) (by omega) (by omega)
  have h2 := @putVal_pos x
  unfold rowL putVals
  simp
  omega
end Go.Proofs.Ytpkoijlbbfffiaa.R
