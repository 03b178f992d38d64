/- The texts of values, plainly: how they are printed (no program in sight). -/
import Derived.Test.YtpkoijlbbfffiaaValPlain
namespace Go.Proofs.Ytpkoijlbbfffiaa.V
open Go O

def digN (n : Nat) : List UInt8 := if n < 10 then [UInt8.ofNat (48 + n)] else digN (n / 10) ++ [UInt8.ofNat (48 + n % 10)]
termination_by n
decreasing_by omega
theorem digN_lt {n : Nat} (h : n < 10) : digN n = [UInt8.ofNat (48 + n)] := by rw [digN, if_pos h]
theorem digN_ge {n : Nat} (h : 10 ≤ n) : digN n = digN (n / 10) ++ [UInt8.ofNat (48 + n % 10)] := by rw [digN, if_neg (by omega)]
theorem digN_len : ∀ (f n : Nat), n < 10 ^ (f + 1) → (digN n).length ≤ f + 1
  | 0, n, h => by rw [digN_lt (by simpa using h)]; simp
  | f + 1, n, h => by
    by_cases g : n < 10
    · rw [digN_lt g]; simp
    · rw [digN_ge (by omega)]
      have := digN_len f (n / 10) (by rw [Nat.pow_succ] at h; omega)
      simp; omega
theorem digN_len20 (n : Nat) (h : n < 18446744073709551616) : (digN n).length ≤ 20 := digN_len 19 n (by omega)
def decL (n : Int) : List UInt8 := if n < 0 then 45 :: digN n.natAbs else digN n.natAbs
def esc (c : UInt8) : List UInt8 := if c.toNat = 34 ∨ c.toNat = 92 then [92, c] else [c]
def escL (s : List UInt8) : List UInt8 := s.flatMap esc
theorem escL_snoc (s : List UInt8) (c : UInt8) : escL (s ++ [c]) = escL s ++ esc c := by simp [escL]
theorem escL_len (s : List UInt8) : (escL s).length ≤ 2 * s.length := by
  induction s with
  | nil => simp [escL]
  | cons c s ih =>
    have : (esc c).length ≤ 2 := by unfold esc; split <;> simp
    have e : escL (c :: s) = esc c ++ escL s := by simp [escL]
    rw [e]; simp; omega
def quoteL (s : List UInt8) : List UInt8 := 34 :: escL s ++ [34]
def printV (v : Val) : List UInt8 := if right v then (if v.k = 1 then decL v.n else if v.k = 2 then (if v.n = 1 then [116, 114, 117, 101] else [102, 97, 108, 115, 101]) else quoteL v.s) else []
end Go.Proofs.Ytpkoijlbbfffiaa.V
