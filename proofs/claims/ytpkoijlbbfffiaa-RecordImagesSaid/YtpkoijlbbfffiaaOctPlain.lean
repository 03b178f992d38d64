/- Plain facts on the bytes of numbers (no program in sight). -/
import Derived.Lib.BitFns
namespace Go.Proofs.Ytpkoijlbbfffiaa.O
open Go

/-- The bytes of a number: seven bits a byte, the least first; 128 says that more come. -/
def uintL (n : Nat) : List UInt8 := if n < 128 then [UInt8.ofNat n] else UInt8.ofNat (n % 128 + 128) :: uintL (n / 128)
termination_by n
decreasing_by omega
theorem uintL_lt {n : Nat} (h : n < 128) : uintL n = [UInt8.ofNat n] := by rw [uintL, if_pos h]
theorem uintL_ge {n : Nat} (h : 128 ≤ n) : uintL n = UInt8.ofNat (n % 128 + 128) :: uintL (n / 128) := by rw [uintL, if_neg (by omega)]

def sizeN (n : Nat) : Nat := (max (Lib.bitLen n) 1 + 6) / 7
theorem bitLen_small : ∀ n : Fin 128, Lib.bitLen n.val ≤ 7 := by decide +kernel
theorem bitLen_half_le (n : Nat) (h : 128 ≤ n) (hx : n < 2 ^ 64) : Lib.bitLen n = 7 + Lib.bitLen (n / 128) := Lib.bitLen_shift 7 n h hx
theorem bitLen_pos (n : Nat) (h : 0 < n) (hx : n < 2 ^ 64) : 0 < Lib.bitLen n := by rw [Lib.bitLen_half n (by omega) hx]; omega
theorem sizeN_eq (n : Nat) (hx : n < 2 ^ 64) : sizeN n = (uintL n).length := by
  induction n using Nat.strongRecOn with
  | ind n ih =>
    by_cases h : n < 128
    · rw [uintL_lt h]
      have := bitLen_small ⟨n, h⟩
      simp only at this
      simp only [sizeN, List.length_singleton]
      omega
    · rw [uintL_ge (by omega), List.length_cons, ← ih (n / 128) (by omega) (by omega)]
      have h1 := bitLen_half_le n (by omega) hx
      have h2 := bitLen_pos (n / 128) (by omega) (by omega)
      simp only [sizeN]
      omega
theorem uintL_len : ∀ (f n : Nat), n < 128 ^ (f + 1) → (uintL n).length ≤ f + 1
  | 0, n, h => by rw [uintL_lt (by simpa using h)]; simp
  | f + 1, n, h => by
    by_cases g : n < 128
    · rw [uintL_lt g]; simp
    · rw [uintL_ge (by omega), List.length_cons]
      have := uintL_len f (n / 128) (by rw [Nat.pow_succ] at h; omega)
      omega
theorem uintL_len10 (n : Nat) (h : n < 2 ^ 64) : (uintL n).length ≤ 10 := uintL_len 9 n (by omega)
theorem uintL_pos (n : Nat) : 0 < (uintL n).length := by
  by_cases g : n < 128
  · rw [uintL_lt g]; simp
  · rw [uintL_ge (by omega)]; simp

/-- The number that stands for a number with a sign. -/
def zig (n : Int) : Nat := if 0 ≤ n then (2 * n).toNat else (-2 * n - 1).toNat
theorem zig_lt (n : Int) (h1 : -9223372036854775808 ≤ n) (h2 : n ≤ 9223372036854775807) : zig n < 2 ^ 64 := by unfold zig; split <;> omega
def textL (l : List UInt8) : List UInt8 := uintL l.length ++ l
def wordL (n : Nat) : List UInt8 := [UInt8.ofNat (n / 16777216 % 256), UInt8.ofNat (n / 65536 % 256), UInt8.ofNat (n / 256 % 256), UInt8.ofNat (n % 256)]
theorem wordL_step (x k : Nat) (h : k < 4) : (wordL x).take (k + 1) = (wordL x).take k ++ [UInt8.ofNat (x / 2 ^ (24 - 8 * k) % 256)] := by
  obtain rfl | rfl | rfl | rfl : k = 0 ∨ k = 1 ∨ k = 2 ∨ k = 3 := by omega
  all_goals simp [wordL]
end Go.Proofs.Ytpkoijlbbfffiaa.O
