/- The contract of octets.Sum and of the laws' cut. -/
import Derived.Test.YtkcehoejcklmfaaOctPut2
import Derived.Outline
import Derived.Lib.SlBytesConst
namespace Go.Proofs.Ytkcehoejcklmfaa.O
open Go.RowKit

def sumX (l : List UInt8) : Nat := l.foldl (fun x c => (x + c.toNat) % 65521) 1
def sumStep (p : Nat × Nat) (c : UInt8) : Nat × Nat := ((p.1 + c.toNat) % 65521, (p.2 + (p.1 + c.toNat) % 65521) % 65521)
def sumP (l : List UInt8) : Nat × Nat := l.foldl sumStep (1, 0)
def sumN (l : List UInt8) : Nat := (sumP l).2 * 65536 + (sumP l).1
theorem sumP_snoc (l : List UInt8) (c : UInt8) : sumP (l ++ [c]) = sumStep (sumP l) c := by simp [sumP]
theorem sumP_lt (l : List UInt8) : (sumP l).1 < 65521 ∧ (sumP l).2 < 65521 := by
  rcases List.eq_nil_or_concat l with rfl | ⟨l', c, rfl⟩
  · simp [sumP]
  · rw [List.concat_eq_append, sumP_snoc]; simp only [sumStep]; omega
theorem take_snoc (l : List UInt8) (k : Nat) (h : k < l.length) : l.take (k + 1) = l.take k ++ [l[k]] := by simp

set_option maxHeartbeats 400000 in
theorem sum_any (A : Option Addr) (n c B : Nat) (l : List UInt8) (w : World) (h : Rd w B 1 A n (bv l)) (hn : n ≤ 1000000000000) :
    Calls Try.prog 78 #[.slice A n c] w fun e w' => e = .returned (.int .u32 (sumN l)) ∧ w = w' := by
  have hl : l.length = n := by have := h.1; simp at this; omega
  have HL := Lib.hid hl
  have hl1 : l.length ≤ n := by omega
  have hl2 : n ≤ l.length := by omega
  clear hl
  go_enter Try.func78, Try.ntmps78
  go_wp2
  go_loop [3, 4, 9] (fun x y i => ∃ k : Nat, k ≤ n ∧ i = .int .i64 k ∧ x = .int .u32 ((sumP (l.take k)).1 : Nat) ∧ y = .int .u32 ((sumP (l.take k)).2 : Nat)) (fun _ _ i => n - (intOf i).toNat)
  case atStart => exact ⟨0, Nat.zero_le _, rfl, rfl, rfl⟩
  case round =>
    obtain ⟨k, hk, rfl, rfl, rfl⟩ := hrel
    have hlt := sumP_lt (l.take k)
    by_cases hkn : k < n
    · obtain ⟨b, off, rfl, _⟩ := h.some_ hkn
      have hc := h.byte (k := k) (by omega)
      have HS := Lib.hid (sumP_snoc (l.take k) (l[k]'(by omega)))
      rw [← take_snoc l k (by omega)] at HS
      have hb8 := (l[k]'(by omega)).toNat_lt
      go_wp2
      go_round
      case rel => exact ⟨k + 1, by omega, by go_num, by rw [HS.out]; simp [sumStep], by rw [HS.out]; simp [sumStep]⟩
      case measure => simp [intOf]; omega
    · obtain rfl : k = n := by omega
      have ht : l.take k = l := List.take_of_length_le (by omega)
      rw [ht] at hlt ⊢
      clear ht
      go_wp2
      go_ret
      refine ⟨?_, rfl⟩
      show Ending.returned (.int .u32 (bits .or .u32 (((sumP l).2 : Int) * 65536) ((sumP l).1 : Int))) = _
      exact ret_int (by
        have e : (((sumP l).2 : Int) * 65536) = (((sumP l).2 * 65536 : Nat) : Int) := by simp
        rw [e, u32_or_nat _ _ (by omega) (by omega), show (65536 : Nat) = 2 ^ 16 from rfl, or_shift 16 _ _ (by omega)]
        rfl)

/-- The laws' cut: the first 300 bytes. -/
def RetCut (A : Option Addr) (_n : Nat) (l : List UInt8) (w : World) (e : Ending) (w' : World) : Prop :=
  ∃ m c', e = .returned (.slice A m c') ∧ m ≤ 300 ∧ m ≤ c' ∧ c' ≤ 9223372036854775807 ∧ Rd w w.heap.size 1 A m (bv (l.take 300)) ∧ w = w'
theorem strq {W : World} {B n c : Nat} {A : Option Addr} {l : List UInt8} (h : Rd W B 1 A n (bv l)) : (convert 31 9 (.slice A n c)).run Try.prog W = .ok (.string ⟨l.toArray⟩) W :=
  run_str W Try.underlying31 Try.underlying5 Try.underlying9 h

end Go.Proofs.Ytkcehoejcklmfaa.O
