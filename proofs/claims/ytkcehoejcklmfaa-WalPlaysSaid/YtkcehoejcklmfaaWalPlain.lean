/- Frames as plain data: what is put, what is got, and that the two agree. -/
import Derived.Test.YtkcehoejcklmfaaOctGet2
import Derived.Test.YtkcehoejcklmfaaOctSum
namespace Go.Proofs.Ytkcehoejcklmfaa.L
open Go O

def headL (g : Nat) (b : List UInt8) : List UInt8 := wordL g ++ textL b
def sealL (s : List UInt8) : List UInt8 := s ++ wordL (sumN s)
def frameL (g : Nat) (b : List UInt8) : List UInt8 := sealL (headL g b)
theorem wordL_len (n : Nat) : (wordL n).length = 4 := rfl
theorem headL_len (g : Nat) (b : List UInt8) : (headL g b).length = 4 + (textL b).length := by simp [headL, wordL_len]
theorem frameL_len (g : Nat) (b : List UInt8) : (frameL g b).length = 8 + (textL b).length := by simp [frameL, sealL, wordL_len, headL_len]; omega
theorem textL_len (b : List UInt8) : (textL b).length = (uintL b.length).length + b.length := by simp [textL]
theorem sumN_lt (l : List UInt8) : sumN l < 4294967296 := by
  have := sumP_lt l
  unfold sumN
  omega

/-! ### words -/
theorem wordTo4 (l : List UInt8) : wordTo l 4 = (((l.getD 0 0).toNat * 256 + (l.getD 1 0).toNat) * 256 + (l.getD 2 0).toNat) * 256 + (l.getD 3 0).toNat := by simp [wordTo]
theorem wordL_of (a b c d : UInt8) (r : List UInt8) : wordL (wordTo (a :: b :: c :: d :: r) 4) = [a, b, c, d] := by
  have ha := a.toNat_lt
  have hb := b.toNat_lt
  have hc := c.toNat_lt
  have hd := d.toNat_lt
  simp only [wordTo4, wordL, List.getD_cons_zero, List.getD_cons_succ]
  simp only [List.cons.injEq, and_true]
  refine ⟨?_, ?_, ?_, ?_⟩ <;> refine ofNat_toNat _ _ ?_ <;> omega
theorem wordL_wordTo {l : List UInt8} (h : 4 ≤ l.length) : wordL (wordTo l 4) = l.take 4 := by
  match l, h with
  | a :: b :: c :: d :: r, _ => rw [wordL_of]; rfl
theorem wordTo_wordL (n : Nat) (h : n < 4294967296) (r : List UInt8) : wordTo (wordL n ++ r) 4 = n := by
  simp only [wordTo4, wordL, List.cons_append, List.nil_append, List.getD_cons_zero, List.getD_cons_succ]
  simp
  omega
theorem wordL_inj {a b : Nat} (ha : a < 4294967296) (hb : b < 4294967296) (h : wordL a = wordL b) : a = b := by
  rw [← wordTo_wordL a ha [], ← wordTo_wordL b hb [], h]
theorem wordTo_lt4 (l : List UInt8) : wordTo l 4 < 4294967296 := by have := wordTo_lt l 4; omega
theorem getWAt_some {l : List UInt8} {i g : Nat} : getWAt l (i : Int) = some g ↔ i + 4 ≤ l.length ∧ g < 4294967296 ∧ (l.drop i).take 4 = wordL g := by
  unfold getWAt
  constructor
  · intro h
    split at h
    · rename_i hc
      injection h with h
      have hl : 4 ≤ (l.drop i).length := by simp; omega
      refine ⟨by omega, ?_, ?_⟩
      · rw [← h]; exact wordTo_lt4 _
      · rw [← h, Int.toNat_natCast, wordL_wordTo hl]
    · cases h
  · rintro ⟨h1, h2, h3⟩
    rw [if_pos ⟨by omega, by omega⟩, Int.toNat_natCast]
    congr 1
    have hl : 4 ≤ (l.drop i).length := by simp; omega
    apply wordL_inj (wordTo_lt4 _) h2
    rw [wordL_wordTo hl, h3]

/-! ### texts -/
theorem getTAt_some {l : List UInt8} {i k : Nat} {s : List UInt8} (hl : l.length < 1000000000) : getTAt l (i : Int) (l.length : Int) = some (s, k) ↔ i + k ≤ l.length ∧ k = (textL s).length ∧ (l.drop i).take k = textL s := by
  unfold getTAt getUAt
  constructor
  · intro h
    split at h
    · cases h
    · rename_i n q hu
      split at hu
      · rename_i hi
        rw [Int.toNat_natCast] at hu
        obtain ⟨hn, hk, ht⟩ := getU_iff.1 hu
        split at h
        · cases h
        · rename_i hc
          simp only [Option.some.injEq, Prod.mk.injEq] at h
          obtain ⟨h1, h2⟩ := h
          rw [Int.toNat_natCast] at h1
          have hql : q ≤ (l.drop i).length := by have := congrArg List.length ht; simp at this ⊢; omega
          simp at hql
          have hsl : s.length = n := by rw [← h1]; simp; omega
          refine ⟨by omega, by rw [textL_len, hsl, ← hk]; omega, ?_⟩
          rw [← h2, List.take_add, ht, textL, hsl, ← h1, List.drop_drop]
      · cases hu
  · rintro ⟨h1, h2, h3⟩
    have hd : l.drop i = uintL s.length ++ (s ++ (l.drop i).drop k) := by
      have := (List.take_append_drop k (l.drop i)).symm
      rw [h3, textL, List.append_assoc] at this
      exact this
    have hsl : s.length < 18446744073709551616 := by rw [textL_len] at h2; omega
    have hu : getU (l.drop i) = some (s.length, (uintL s.length).length) := by rw [hd]; exact getU_put _ _ hsl
    rw [if_pos ⟨by omega, by omega⟩, Int.toNat_natCast, hu]
    rw [textL_len] at h2
    have hnot : ¬ ((l.length : Int) < 0 ∨ (l.length : Int) < (s.length : Nat) ∨ (l.length : Int) - (i : Int) - ((uintL s.length).length : Nat) < (s.length : Nat)) := by omega
    simp only [if_neg hnot]
    rw [← h2, ← List.drop_drop, hd]
    simp

/-! ### frames -/
/-- The frame that stands at a place: its generation, its text, how many bytes it has. -/
def frameAt (l : List UInt8) (x : Int) : Option (Nat × List UInt8 × Nat) :=
  match getWAt l x with
  | none => none
  | some g => match getTAt l (x + 4) l.length with
    | none => none
    | some (s, k) => match getWAt l (x + 4 + k) with
      | none => none
      | some u => if u = sumN ((l.drop x.toNat).take (4 + k)) then some (g, s, k + 8) else none
theorem frameAt_some {l : List UInt8} {i g k : Nat} {s : List UInt8} (hl : l.length < 1000000000) : frameAt l (i : Int) = some (g, s, k) ↔ g < 4294967296 ∧ i + k ≤ l.length ∧ k = (frameL g s).length ∧ (l.drop i).take k = frameL g s := by
  unfold frameAt
  have e4 : (i : Int) + 4 = ((i + 4 : Nat) : Int) := by omega
  rw [e4]
  constructor
  · intro h
    split at h
    · cases h
    · rename_i g' hg
      split at h
      · cases h
      · rename_i s' k' ht
        split at h
        · cases h
        · rename_i u hu
          split at h
          · rename_i hs
            simp only [Option.some.injEq, Prod.mk.injEq] at h
            obtain ⟨rfl, rfl, rfl⟩ := h
            obtain ⟨g1, g2, g3⟩ := getWAt_some.1 hg
            obtain ⟨t1, t2, t3⟩ := (getTAt_some hl).1 ht
            rw [show ((i + 4 : Nat) : Int) + (k' : Int) = ((i + 4 + k' : Nat) : Int) by omega] at hu
            obtain ⟨u1, u2, u3⟩ := getWAt_some.1 hu
            have hd4 : (l.drop i).drop 4 = l.drop (i + 4) := List.drop_drop
            have hh : (l.drop i).take (4 + k') = headL g' s' := by rw [List.take_add, g3, hd4, t3]; rfl
            refine ⟨g2, by omega, by rw [frameL_len, ← t2]; omega, ?_⟩
            rw [Int.toNat_natCast, hh] at hs
            rw [show k' + 8 = (4 + k') + 4 by omega, List.take_add, hh, List.drop_drop, show i + (4 + k') = i + 4 + k' by omega, u3, hs]
            rfl
          · cases h
  · rintro ⟨h1, h2, h3, h4⟩
    rw [frameL_len] at h3
    have hkl : k = 4 + ((textL s).length + 4) := by omega
    have hbig : (l.drop i).take 4 = wordL g ∧ (l.drop (i + 4)).take (textL s).length = textL s ∧ (l.drop (i + 4 + (textL s).length)).take 4 = wordL (sumN (headL g s)) := by
      have e : l.drop i = frameL g s ++ (l.drop i).drop k := by rw [← h4, List.take_append_drop]
      have e2 : l.drop i = wordL g ++ (textL s ++ (wordL (sumN (headL g s)) ++ (l.drop i).drop k)) := by
        refine e.trans ?_
        generalize (l.drop i).drop k = z
        simp only [frameL, sealL, headL, List.append_assoc]
      refine ⟨by rw [e2]; simp [wordL], ?_, ?_⟩
      · rw [← List.drop_drop, e2]
        simp [wordL]
      · rw [show i + 4 + (textL s).length = i + (4 + (textL s).length) by omega, ← List.drop_drop, e2]
        rw [show 4 + (textL s).length = (wordL g ++ textL s).length by rw [List.length_append, wordL_len], ← List.append_assoc, List.drop_left]
        simp [wordL]
    obtain ⟨b1, b2, b3⟩ := hbig
    have hg := getWAt_some.2 ⟨show i + 4 ≤ l.length by omega, h1, b1⟩
    have ht := (getTAt_some (i := i + 4) hl).2 ⟨by omega, rfl, b2⟩
    have hu := getWAt_some.2 ⟨show i + 4 + (textL s).length + 4 ≤ l.length by omega, sumN_lt _, b3⟩
    have hh : (l.drop i).take (4 + (textL s).length) = headL g s := by rw [List.take_add, b1, List.drop_drop, b2]; rfl
    rw [hg]
    simp only [ht]
    rw [show ((i + 4 : Nat) : Int) + ((textL s).length : Int) = ((i + 4 + (textL s).length : Nat) : Int) by omega, hu]
    simp only [Int.toNat_natCast, hh, if_true]
    rw [h3, Nat.add_comm]
theorem frameAt_neg {l : List UInt8} {x : Int} (h : x < 0 ∨ (l.length : Int) < x) : frameAt l x = none := by
  unfold frameAt getWAt
  rw [if_neg (by omega)]

/-- The generation and the text of just such bytes. -/
def imageOf (l : List UInt8) : Option (Nat × List UInt8) := match frameAt l (0 : Nat) with
  | none => none
  | some (g, s, k) => if k = l.length then some (g, s) else none

def imG (l : List UInt8) : Int := match imageOf l with | none => 0 | some (g, _) => (g : Int)
def imS (l : List UInt8) : List UInt8 := match imageOf l with | none => [] | some (_, s) => s

/-! ### scans -/
def scanF : Nat → List UInt8 → Nat → Nat → List (List UInt8) × Nat
  | 0, _, _, i => ([], i)
  | f + 1, l, g, i => match frameAt l (i : Int) with
    | none => ([], i)
    | some (g', s, k) => if g' = g then (s :: (scanF f l g (i + k)).1, (scanF f l g (i + k)).2) else ([], i)
/-- The frames of a generation from a place on: their texts, the place behind them. -/
def scanFrom (l : List UInt8) (g i : Nat) : List (List UInt8) × Nat := scanF (l.length + 1 - i) l g i
theorem frameL_pos (g : Nat) (s : List UInt8) : 8 ≤ (frameL g s).length := by rw [frameL_len]; omega
theorem scanF_more (l : List UInt8) (g : Nat) (hl : l.length < 1000000000) : ∀ (f f' i : Nat), l.length < f + i → l.length < f' + i → scanF f l g i = scanF f' l g i := by
  intro f
  induction f with
  | zero =>
    intro f' i h1 h2
    cases f' with
    | zero => rfl
    | succ f' =>
      rw [scanF, scanF, frameAt_neg (.inr (by omega))]
  | succ f ih =>
    intro f' i h1 h2
    cases f' with
    | zero => rw [scanF, scanF, frameAt_neg (.inr (by omega))]
    | succ f' =>
      rw [scanF, scanF]
      cases hf : frameAt l (i : Int) with
      | none => rfl
      | some q =>
        obtain ⟨g', s, k⟩ := q
        obtain ⟨_, h4, h5, _⟩ := (frameAt_some hl).1 hf
        have := frameL_pos g' s
        simp only
        rw [ih f' (i + k) (by omega) (by omega)]
theorem scan_yes {l : List UInt8} {g i k : Nat} {s : List UInt8} (hl : l.length < 1000000000) (h : frameAt l (i : Int) = some (g, s, k)) : scanFrom l g i = (s :: (scanFrom l g (i + k)).1, (scanFrom l g (i + k)).2) := by
  obtain ⟨_, h4, h5, _⟩ := (frameAt_some hl).1 h
  have h8 := frameL_pos g s
  have e : l.length + 1 - i = (l.length - i) + 1 := by omega
  unfold scanFrom
  rw [e, scanF, h]
  simp only [if_true]
  rw [scanF_more l g hl (l.length - i) (l.length + 1 - (i + k)) (i + k) (by omega) (by omega)]
theorem scan_no {l : List UInt8} {g i : Nat} (h : ∀ s k, frameAt l (i : Int) ≠ some (g, s, k)) : scanFrom l g i = ([], i) := by
  unfold scanFrom
  cases l.length + 1 - i with
  | zero => rfl
  | succ f =>
    rw [scanF]
    split
    · rfl
    · rename_i g' s k hf
      split
      · rename_i e; subst e; exact absurd hf (h s k)
      · rfl
theorem scan_le {l : List UInt8} {g : Nat} (hl : l.length < 1000000000) : ∀ (f i : Nat), i ≤ l.length → (scanF f l g i).2 ≤ l.length := by
  intro f
  induction f with
  | zero => intro i h; exact h
  | succ f ih =>
    intro i h
    rw [scanF]
    split
    · exact h
    · rename_i g' s k hf
      obtain ⟨_, h4, _⟩ := (frameAt_some hl).1 hf
      split
      · exact ih _ h4
      · exact h
theorem scan_rowsF (l : List UInt8) (g : Nat) (hl : l.length < 1000000000) : ∀ (f i : Nat), i ≤ l.length → (scanF f l g i).1.length + i ≤ l.length := by
  intro f
  induction f with
  | zero => intro i h; simpa [scanF] using h
  | succ f ih =>
    intro i h
    rw [scanF]
    split
    · simpa using h
    · rename_i g' s k hf
      obtain ⟨_, h4, h5, _⟩ := (frameAt_some hl).1 hf
      have h8 := frameL_pos g' s
      split
      · have := ih (i + k) h4
        simp only [List.length_cons]
        omega
      · simpa using h
theorem scan_rows (l : List UInt8) (g : Nat) (hl : l.length < 1000000000) : (scanFrom l g 0).1.length ≤ l.length := by
  have := scan_rowsF l g hl (l.length + 1 - 0) 0 (Nat.zero_le _)
  simpa [scanFrom] using this
end Go.Proofs.Ytkcehoejcklmfaa.L
