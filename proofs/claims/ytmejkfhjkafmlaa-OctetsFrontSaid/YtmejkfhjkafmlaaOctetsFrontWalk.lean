/- OctetsFront's walk. -/
import Derived.Test.YtmejkfhjkafmlaaOctGet2
import Derived.Test.YtmejkfhjkafmlaaOctSum
import Derived.Test.YtmejkfhjkafmlaaOpen
namespace Go.Proofs.Ytmejkfhjkafmlaa.octetsFront
open Go.RowKit O

theorem getU_more {l m : List UInt8} {p : Nat × Nat} (h : getU l = some p) : getU (l ++ m) = some p := by
  obtain ⟨n, k⟩ := p
  obtain ⟨h1, h2, h3, h4⟩ := getU_some h
  rw [getU_iff]
  exact ⟨h1, h3, by rw [List.take_append_of_le_length h4, h2]⟩
theorem at0 (l : List UInt8) : getUAt l 0 = getU l := by simp [getUAt]
theorem getUAt_more {l m : List UInt8} {p : Nat × Nat} (h : getUAt l 0 = some p) : getUAt (l ++ m) 0 = some p := by rw [at0] at h ⊢; exact getU_more h
theorem getT_more {l m : List UInt8} {p : List UInt8 × Nat} {b : Int} (h : getTAt l 0 b = some p) : getTAt (l ++ m) 0 b = some p := by
  unfold getTAt at h ⊢
  cases hu : getUAt l 0 with
  | none => rw [hu] at h; cases h
  | some q =>
    obtain ⟨n, k⟩ := q
    have hl := getUAt_lt hu
    rw [hu] at h
    rw [getUAt_more hu]
    simp only at h ⊢
    split at h
    · cases h
    · rename_i hno
      rw [if_neg (by simp; omega), ← h]
      simp only [Int.toNat_zero, Nat.zero_add]
      rw [List.drop_append_of_le_length (by omega), List.take_append_of_le_length (by simp; omega)]
theorem own_cap {w : World} {base e size n c : Nat} {A : Option Addr} {xs : List Value} (h : w.ownsRow base e size (.slice A n c) n xs) : n ≤ c ∧ c ≤ maxLen := by
  rcases h.2 with ⟨h1, h2⟩ | ⟨g, cap, cur, h1, _, _, h2, h3, _⟩
  · injection h1 with _ _ h3
    subst h2 h3
    exact ⟨Nat.le_refl _, Nat.zero_le _⟩
  · injection h1 with _ _ h4
    subst h4
    exact ⟨h2, h3⟩
theorem getT_none {l : List UInt8} {x most : Int} (h : getUAt l x = none) : getTAt l x most = none := by rw [getTAt, h]
/-- The ways that the two numbers and the two texts may stand. -/
theorem ways (l m : List UInt8) :
    (getUAt l 0 = none ∧ getUAt (l ++ m) 0 = none ∧ getTAt l 0 300 = none ∧ getTAt (l ++ m) 0 300 = none) ∨
    (∃ p, getUAt l 0 = none ∧ getUAt (l ++ m) 0 = some p ∧ getTAt l 0 300 = none ∧ getTAt (l ++ m) 0 300 = none) ∨
    (∃ p q, getUAt l 0 = none ∧ getUAt (l ++ m) 0 = some p ∧ getTAt l 0 300 = none ∧ getTAt (l ++ m) 0 300 = some q) ∨
    (∃ p, getUAt l 0 = some p ∧ getUAt (l ++ m) 0 = some p ∧ getTAt l 0 300 = none ∧ getTAt (l ++ m) 0 300 = none) ∨
    (∃ p q, getUAt l 0 = some p ∧ getUAt (l ++ m) 0 = some p ∧ getTAt l 0 300 = none ∧ getTAt (l ++ m) 0 300 = some q) ∨
    (∃ p q, getUAt l 0 = some p ∧ getUAt (l ++ m) 0 = some p ∧ getTAt l 0 300 = some q ∧ getTAt (l ++ m) 0 300 = some q) := by
  cases h1 : getUAt l 0 with
  | none =>
    have h3 := getT_none (most := 300) h1
    cases h2 : getUAt (l ++ m) 0 with
    | none => exact .inl ⟨rfl, rfl, h3, getT_none h2⟩
    | some p =>
      cases h4 : getTAt (l ++ m) 0 300 with
      | none => exact .inr (.inl ⟨p, rfl, rfl, h3, rfl⟩)
      | some q => exact .inr (.inr (.inl ⟨p, q, rfl, rfl, h3, rfl⟩))
  | some p =>
    have h2 := getUAt_more (m := m) h1
    cases h3 : getTAt l 0 300 with
    | none =>
      cases h4 : getTAt (l ++ m) 0 300 with
      | none => exact .inr (.inr (.inr (.inl ⟨p, rfl, h2, rfl, rfl⟩)))
      | some q => exact .inr (.inr (.inr (.inr (.inl ⟨p, q, rfl, h2, rfl, rfl⟩))))
    | some q => exact .inr (.inr (.inr (.inr (.inr ⟨p, q, rfl, h2, rfl, getT_more h3⟩))))

set_option maxRecDepth 100000 in
set_option maxHeartbeats 4000000 in
theorem walk (A : Option Addr) (n c : Nat) (l0 : List UInt8) (A2 : Option Addr) (n2 c2 : Nat) (m0 : List UInt8) (w : World) (h0 : IsB w A n c l0) (k0 : IsB w A2 n2 c2 m0) :
    Calls Try.prog 9 #[.slice A n c, .slice A2 n2 c2] w fun e w' => e = .returned (.bool true) ∧ Below w.heap.size w w' := by
  obtain ⟨h, hnc, hcm⟩ := h0
  obtain ⟨k, knc, kcm⟩ := k0
  unfold maxLen at hcm kcm
  go_enter Try.func9, Try.ntmps9
  go_wp2_with fail
  refine (cut_any A n c l0 w h hnc hcm).mono ?_; rintro e w1 ⟨m, c', rfl, hm, hmc, hcx, hr, rfl⟩
  go_wp2_with fail
  refine (cut_any A2 n2 c2 m0 w k knc kcm).mono ?_; rintro e w1 ⟨m2, c2', rfl, hm2, hmc2, hcx2, hr2, rfl⟩
  generalize l0.take 300 = l at hr
  generalize m0.take 300 = l2 at hr2
  clear h hnc hcm k knc kcm
  have hown0 : (w.alloc (.cells #[] 5)).ownsRow w.heap.size 5 1 (.slice (some ⟨w.heap.size, 0, none⟩) 0 0) 0 [] := own_lit w [] (Nat.le_refl _) (by simp)
  have hb0 : Below w.heap.size w (w.alloc (.cells #[] 5)) := (Below.refl _ _).alloc (Nat.le_refl _) _
  go_wp2_with (first
    | (at_builtin; refine wpList_app rfl (.tmp 18) (.tmp 19) byteElem rfl w.heap.size [] rfl hown0 rfl (bv l) (hr.alloc (Nat.le_refl _) _) (bv_one l) (by unfold maxLen; omega) (by omega) hb0.size ?_; intro A3 c3 w3 hown3 hg3 _; rw [Nat.zero_add, List.nil_append] at hown3; have hb3 : Below w.heap.size w w3 := below_app hb0 hown0 hg3 hb0.size; clear hown0 hg3)
    | (at_builtin; refine wpList_app rfl (.tmp 20) (.tmp 21) byteElem rfl w.heap.size (bv l) rfl hown3 rfl (bv l2) (hr2.below hb3) (bv_one l2) (by unfold maxLen; omega) (by omega) hb3.size ?_; intro A4 c4 w4 hown4 hg4 _; rw [← bv_append] at hown4; have hb4 : Below w.heap.size w w4 := below_app hb3 hown3 hg4 hb3.size; clear hown3 hg4 hb3))
  obtain ⟨hk1, hk2⟩ := own_cap hown4
  unfold maxLen at hk2
  have hra := Rd.of_own hown4
  have hrl := hr.next hb4
  clear hown4 hr hr2 hb0
  have H1 := Lib.hid (getUint_any A m c' 0 l w4 hrl hmc (by omega) hcx)
  have H2 := Lib.hid (getUint_any A4 (m + m2) c4 0 (l ++ l2) w4 hra hk1 (by omega) hk2)
  have H3 := Lib.hid (getText_any A m c' 0 300 l w4 hrl hmc (by omega) hcx (by omega) (by omega))
  have H4 := Lib.hid (getText_any A4 (m + m2) c4 0 300 (l ++ l2) w4 hra hk1 (by omega) hk2 (by omega) (by omega))
  clear hra hrl
  rcases ways l l2 with ⟨e1, e2, e3, e4⟩ | ⟨⟨u, k⟩, e1, e2, e3, e4⟩ | ⟨⟨u, k⟩, ⟨s, j⟩, e1, e2, e3, e4⟩ | ⟨⟨u, k⟩, e1, e2, e3, e4⟩ | ⟨⟨u, k⟩, ⟨s, j⟩, e1, e2, e3, e4⟩ | ⟨⟨u, k⟩, ⟨s, j⟩, e1, e2, e3, e4⟩
  all_goals
    rw [e1] at H1
    rw [e2] at H2
    rw [e3] at H3
    rw [e4] at H4
    clear e1 e2 e3 e4
    refine H1.out.mono ?_; rintro e w1 ⟨rfl, rfl⟩
    simp only [resU]
    go_wp2_with fail
    refine H2.out.mono ?_; rintro e w1 ⟨rfl, rfl⟩
    simp only [resU]
    go_wp2_with fail
    refine H3.out.mono ?_; rintro e w1 ⟨rfl, rfl⟩
    simp only [resT]
    go_wp2_with fail
    refine H4.out.mono ?_; rintro e w1 ⟨rfl, rfl⟩
    clear H1 H2 H3 H4
    simp only [resT]
    go_wp2_with fail
    refine (lives_any _).mono ?_; rintro e w7 ⟨rfl, b7⟩
    go_wp2_with fail
    go_ret
    exact ⟨rfl, bthen hb4 b7⟩
end Go.Proofs.Ytmejkfhjkafmlaa.octetsFront
