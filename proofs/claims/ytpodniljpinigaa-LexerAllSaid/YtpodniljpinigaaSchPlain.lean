/- Names as plain data: which texts are names (no program in sight). -/
import Derived.Test.YtpodniljpinigaaValPlain
namespace Go.Proofs.Ytpodniljpinigaa.S
open Go O V

/-- The words of the language. -/
def words : List (List UInt8) := [[116, 97, 98, 108, 101], [114, 111, 119, 115], [112, 114, 111, 99], [108, 101, 116], [105, 102], [101, 108, 115, 101], [108, 111, 111, 112], [101, 97, 99, 104], [105, 110], [102, 114, 111, 109], [116, 111], [109, 97, 120], [114, 111, 108, 108, 98, 97, 99, 107], [101, 109, 105, 116], [100, 101, 108], [104, 97, 115], [115, 117, 109], [99, 111, 117, 110, 116], [105, 110, 116], [98, 111, 111, 108], [116, 101, 120, 116], [116, 114, 117, 101], [102, 97, 108, 115, 101]]
def isWordL (s : List UInt8) : Bool := words.any fun w => s == w
def smallC (c : UInt8) : Bool := decide (97 ≤ c.toNat) && decide (c.toNat ≤ 122)
def otherC (c : UInt8) : Bool := decide (c.toNat = 95) || (decide (48 ≤ c.toNat) && decide (c.toNat ≤ 57))
def restC (c : UInt8) : Bool := smallC c || otherC c
def goodL : List UInt8 → Bool
  | [] => true
  | c :: r => smallC c && r.all restC
def isNameL (s : List UInt8) : Bool := goodL s && (decide (1 ≤ s.length) && decide (s.length ≤ 16)) && !isWordL s
theorem goodL_snoc : ∀ (l : List UInt8) (c : UInt8), goodL (l ++ [c]) = (goodL l && if l.length = 0 then smallC c else restC c)
  | [], c => by simp [goodL]
  | d :: l, c => by simp [goodL, Bool.and_assoc]
theorem goodL_append : ∀ (l m : List UInt8), goodL (l ++ m) = true → goodL l = true
  | [], _, _ => rfl
  | d :: l, m, h => by simp [goodL] at h ⊢; exact ⟨h.1, h.2.1⟩
theorem good_step {s : List UInt8} {k : Nat} (h : k < s.length) (hg : goodL (s.take k) = true) : goodL (s.take (k + 1)) = if k = 0 then smallC s[k] else restC s[k] := by
  rw [List.take_succ_eq_append_getElem h, goodL_snoc, hg, List.length_take, Nat.min_eq_left (Nat.le_of_lt h)]
  simp
theorem good_no {s : List UInt8} {k : Nat} (h : goodL (s.take k) = false) : goodL s = false := by
  cases hs : goodL s
  · rfl
  · rw [← List.take_append_drop k s] at hs
    rw [goodL_append _ _ hs] at h
    cases h
theorem isNameL_no {s : List UInt8} {k : Nat} (h : goodL (s.take k) = false) : isNameL s = false := by rw [isNameL, good_no h]; rfl
/-- A name with a sign more. -/
theorem name_more {s : List UInt8} (h : isNameL s = true) (c : UInt8) : isNameL (s ++ [c]) = (restC c && decide (s.length + 1 ≤ 16) && !isWordL (s ++ [c])) := by
  unfold isNameL at h
  simp only [Bool.and_eq_true, decide_eq_true_eq] at h
  obtain ⟨⟨h1, h2, h3⟩, _⟩ := h
  unfold isNameL
  rw [goodL_snoc, h1, if_neg (by omega), List.length_append]
  simp
theorem name_len {s : List UInt8} (h : isNameL s = true) : 1 ≤ s.length ∧ s.length ≤ 16 := by
  unfold isNameL at h
  simp only [Bool.and_eq_true, decide_eq_true_eq] at h
  exact h.1.2
end Go.Proofs.Ytpodniljpinigaa.S
