/- The contract of octets.Sum and of the laws' cut. -/
import Derived.Test.YtmejkfhjkafmlaaOctPut2
import Derived.Outline
import Derived.Lib.SlBytesConst
namespace Go.Proofs.Ytmejkfhjkafmlaa.O
open Go.RowKit

def sumX (l : List UInt8) : Nat := l.foldl (fun x c => (x + c.toNat) % 65521) 1
def sumStep (p : Nat × Nat) (c : UInt8) : Nat × Nat := ((p.1 + c.toNat) % 65521, (p.2 + (p.1 + c.toNat) % 65521) % 65521)
def sumP (l : List UInt8) : Nat × Nat := l.foldl sumStep (1, 0)
def sumN (l : List UInt8) : Nat := (sumP l).2 * 65536 + (sumP l).1
theorem sumP_snoc (l : List UInt8) (c : UInt8) : sumP (l ++ [c]) = sumStep (sumP l) c := by simp [sumP]
theorem sumP_lt (l : List UInt8) : (sumP l).1 < 65521 ∧ (sumP l).2 < 65521 := by
  rcases List.eq_nil_or_concat l with rfl | ⟨l', c, rfl⟩
  · simp [sumP]
  · rw [List.concat_eq_append, sumP_snoc]; simp only [sumStep]; omega
theorem take_snoc (l : List UInt8) (k : Nat) (h : k < l.length) : l.take (k + 1) = l.take k ++ [l[k]] := by simp

set_option maxHeartbeats 400000 in
theorem sum_any (A : Option Addr) (n c B : Nat) (l : List UInt8) (w : World) (h : Rd w B 1 A n (bv l)) (hn : n ≤ 1000000000000) :
    Calls Try.prog 20 #[.slice A n c] w fun e w' => e = .returned (.int .u32 (sumN l)) ∧ w = w' := by
  have hl : l.length = n := by have := h.1; simp at this; omega
  have HL := Lib.hid hl
  have hl1 : l.length ≤ n := by omega
  have hl2 : n ≤ l.length := by omega
  clear hl
  go_enter Try.func20, Try.ntmps20
  go_wp2
  go_loop [3, 4, 9] (fun x y i => ∃ k : Nat, k ≤ n ∧ i = .int .i64 k ∧ x = .int .u32 ((sumP (l.take k)).1 : Nat) ∧ y = .int .u32 ((sumP (l.take k)).2 : Nat)) (fun _ _ i => n - (intOf i).toNat)
  case atStart => exact ⟨0, Nat.zero_le _, rfl, rfl, rfl⟩
  case round =>
    obtain ⟨k, hk, rfl, rfl, rfl⟩ := hrel
    have hlt := sumP_lt (l.take k)
    by_cases hkn : k < n
    · obtain ⟨b, off, rfl, _⟩ := h.some_ hkn
      have hc := h.byte (k := k) (by omega)
      have HS := Lib.hid (sumP_snoc (l.take k) (l[k]'(by omega)))
      rw [← take_snoc l k (by omega)] at HS
      have hb8 := (l[k]'(by omega)).toNat_lt
      go_wp2
      go_round
      case rel => exact ⟨k + 1, by omega, by go_num, by rw [HS.out]; simp [sumStep], by rw [HS.out]; simp [sumStep]⟩
      case measure => simp [intOf]; omega
    · obtain rfl : k = n := by omega
      have ht : l.take k = l := List.take_of_length_le (by omega)
      rw [ht] at hlt ⊢
      clear ht
      go_wp2
      go_ret
      refine ⟨?_, rfl⟩
      show Ending.returned (.int .u32 (bits .or .u32 (((sumP l).2 : Int) * 65536) ((sumP l).1 : Int))) = _
      exact ret_int (by
        have e : (((sumP l).2 : Int) * 65536) = (((sumP l).2 * 65536 : Nat) : Int) := by simp
        rw [e, u32_or_nat _ _ (by omega) (by omega), show (65536 : Nat) = 2 ^ 16 from rfl, or_shift 16 _ _ (by omega)]
        rfl)

/-- The laws' cut: the first 300 bytes. -/
def RetCut (A : Option Addr) (n : Nat) (l : List UInt8) (w : World) (e : Ending) (w' : World) : Prop :=
  ∃ m c', e = .returned (.slice A m c') ∧ m ≤ 300 ∧ m ≤ c' ∧ c' ≤ 9223372036854775807 ∧ Rd w w.heap.size 1 A m (bv (l.take 300)) ∧ w = w'
theorem cut_any (A : Option Addr) (n c : Nat) (l : List UInt8) (w : World) (h : Rd w w.heap.size 1 A n (bv l)) (hnc : n ≤ c) (hc : c ≤ 9223372036854775807) :
    Calls Try.prog 18 #[.slice A n c] w (RetCut A n l w) := by
  have ht := h.take_ 300
  have e : (min (n : Int) 300).toNat = min n 300 := by omega
  have E := Lib.hid e
  clear h e
  go_enter Try.func18, Try.ntmps18
  go_wp2
  go_ret
  exact ⟨_, _, rfl, by rw [E.out]; omega, by rw [E.out]; omega, hc, by rw [E.out]; exact ht, rfl⟩

theorem strq {W : World} {B n c : Nat} {A : Option Addr} {l : List UInt8} (h : Rd W B 1 A n (bv l)) : (convert 28 9 (.slice A n c)).run Try.prog W = .ok (.string ⟨l.toArray⟩) W :=
  run_str W Try.underlying28 Try.underlying5 Try.underlying9 h

set_option maxRecDepth 100000 in
set_option maxHeartbeats 1000000 in
theorem lives_any (w : World) : Calls Try.prog 19 #[] w fun e w' => e = .returned (.bool true) ∧ Below w.heap.size w w' := by
  have e1 : [] ++ uintL 300 = [172, 2] := by rw [uintL_ge (by omega), uintL_lt (by omega)]; rfl
  have e2 : [] ++ uintL (zig (-3)) = [5] := by rw [show zig (-3) = 5 from rfl, uintL_lt (by omega)]; rfl
  have e3 : [] ++ textL [97, 98] = [2, 97, 98] := by rw [textL, uintL_lt (by decide)]; rfl
  have h1 := fun W => putUint_any none 0 0 300 [] W Rd.nil_ (by omega) (by omega)
  have h2 := fun W => putInt_any none 0 0 (-3) [] W Rd.nil_ (by omega) (by omega) (by omega)
  have h3 := fun W => putText_any none 0 0 [] [97, 98] W Rd.nil_ (by simp)
  have h5 := fun W => sum_any none 0 0 0 [] W Rd.nil_ (by omega)
  rw [e1] at h1; rw [e2] at h2; rw [e3] at h3
  have s4 : (sumN [87, 105, 107, 105, 112, 101, 100, 105, 97] : Int) = 300286872 := by decide +kernel
  have s5 : (sumN [] : Int) = 1 := by decide +kernel
  have H1 := Lib.hid h1; have H2 := Lib.hid h2; have H3 := Lib.hid h3; have H5 := Lib.hid h5
  clear h1 h2 h3 h5 e1 e2 e3
  go_enter Try.func19, Try.ntmps19
  go_wp2_with fail
  refine (H1.out _).mono ?_; rintro e w1 ⟨A1, n1, c1, rfl, o1, b1⟩
  have r1 := Rd.of_own o1; clear o1 H1
  have q1 := strq (c := c1) r1
  go_wp2_with fail
  refine (H2.out _).mono ?_; rintro e w2 ⟨A2, n2, c2, rfl, o2, b2⟩
  have r2 := Rd.of_own o2; have b02 := bthen b1 b2; clear o2 H2 r1 b1 b2 q1
  have q2 := strq (c := c2) r2
  go_wp2_with fail
  refine (H3.out _).mono ?_; rintro e w3 ⟨A3, n3, c3, rfl, o3, b3⟩
  have r3 := Rd.of_own o3; have b03 := bthen b02 b3; clear o3 H3 r2 b02 b3 q2
  have q3 := strq (c := c3) r3
  have kc := fun (w : World) (C : Array Value) (n c : Nat) => Lib.run_convert_bytes_const (P := Try.prog) w 28 5 C n c Try.underlying28 Try.underlying5
  go_wp2_with fail
  clear q3 kc r3
  refine (sum_any _ 9 9 _ [87, 105, 107, 105, 112, 101, 100, 105, 97] _ (Rd.lit w3 _ _ rfl 5 (9, 10) 9 rfl) (by omega)).mono ?_; rintro e w4 ⟨rfl, rfl⟩
  go_wp2_with fail
  refine (H5.out _).mono ?_; rintro e w5 ⟨rfl, rfl⟩
  go_wp2_with fail
  go_ret
  exact ⟨rfl, b03.alloc b03.size _⟩
end Go.Proofs.Ytmejkfhjkafmlaa.O
