/- The contracts of octets.PutInt, PutText, PutWord. -/
import Derived.Test.YtpkoijlbbfffiaaOctPut
namespace Go.Proofs.Ytpkoijlbbfffiaa.O
open Go.RowKit

theorem xor_ones (a : Nat) (h : a < 18446744073709551616) : a ^^^ 18446744073709551615 = 18446744073709551615 - a := by
  have e := BitVec.toNat_xor (BitVec.ofNat 64 a) (BitVec.allOnes 64)
  rw [BitVec.xor_allOnes, BitVec.toNat_not, BitVec.toNat_allOnes, BitVec.toNat_ofNat, Nat.mod_eq_of_lt (by omega)] at e
  exact e.symm
theorem zig_pos (x : Int) (h0 : 0 ≤ x) (h2 : x ≤ 9223372036854775807) : bits .xor .u64 (IntKind.u64.wrap (wrap64 (x * 2))) (x / 9223372036854775808) = (zig x : Int) := by
  have e1 : x / 9223372036854775808 = 0 := by omega
  have e2 : IntKind.u64.wrap (wrap64 (x * 2)) = x * 2 := by
    simp only [IntKind.wrap, wrap64, IntKind.signed, IntKind.bits]
    simp
    omega
  rw [e1, e2, u64_xor _ _ (by omega) (by omega) (by omega) (by omega)]
  simp only [zig, if_pos h0]
  simp
  omega
theorem zig_neg (x : Int) (h0 : x < 0) (h1 : -9223372036854775808 ≤ x) : bits .xor .u64 (IntKind.u64.wrap (wrap64 (x * 2))) (IntKind.u64.wrap (x / 9223372036854775808)) = (zig x : Int) := by
  have e1 : x / 9223372036854775808 = -1 := by omega
  have e3 : IntKind.u64.wrap (-1) = 18446744073709551615 := by decide
  have e2 : IntKind.u64.wrap (wrap64 (x * 2)) = x * 2 + 18446744073709551616 := by
    simp only [IntKind.wrap, wrap64, IntKind.signed, IntKind.bits]
    simp
    omega
  rw [e1, e2, e3, u64_xor _ _ (by omega) (by omega) (by omega) (by omega), show (18446744073709551615 : Int).toNat = 18446744073709551615 from rfl, xor_ones _ (by omega)]
  simp only [zig, if_neg (show ¬ 0 ≤ x by omega)]
  omega

set_option maxRecDepth 100000 in
set_option maxHeartbeats 1000000 in
theorem putInt_any (A : Option Addr) (n c : Nat) (x : Int) (l : List UInt8) (w : World) (h : Rd w w.heap.size 1 A n (bv l)) (hn : n ≤ 140737488355300) (h1 : -9223372036854775808 ≤ x) (h2 : x ≤ 9223372036854775807) :
    Calls Try.prog 66 #[.slice A n c, .int .i64 x] w (RetB (l ++ uintL (zig x)) w) := by
  have hz := zig_lt x h1 h2
  by_cases h0 : 0 ≤ x
  · go_enter Try.func66, Try.ntmps66
    go_wp2_with fail
    rw [zig_pos x h0 h2]
    refine (putUint_any A n c (zig x) l _ h (by omega) (by omega)).mono ?_; rintro e w1 ⟨A1, n1, c1, rfl, hown1, hb1⟩
    go_wp2_with fail
    go_ret
    exact ⟨A1, n1, c1, rfl, hown1, hb1⟩
  · go_enter Try.func66, Try.ntmps66
    go_wp2_with fail
    rw [zig_neg x (by omega) h1]
    refine (putUint_any A n c (zig x) l _ h (by omega) (by omega)).mono ?_; rintro e w1 ⟨A1, n1, c1, rfl, hown1, hb1⟩
    go_wp2_with fail
    go_ret
    exact ⟨A1, n1, c1, rfl, hown1, hb1⟩
set_option maxRecDepth 100000 in
set_option maxHeartbeats 1000000 in
theorem putText_any (A : Option Addr) (n c : Nat) (l s : List UInt8) (w : World) (h : Rd w w.heap.size 1 A n (bv l)) (hn : n + s.length ≤ 140737488355300) :
    Calls Try.prog 67 #[.slice A n c, .string ⟨s.toArray⟩] w (RetB (l ++ textL s) w) := by
  have h10 := uintL_len10 s.length (by omega)
  have hl : l.length = n := by have := h.1; simp at this; omega
  subst hl
  have hs : (ByteArray.mk s.toArray).size = s.length := by simp [ByteArray.size]
  go_enter Try.func67, Try.ntmps67
  go_wp2_with fail
  refine (putUint_any A l.length c s.length l _ h (by omega) (by omega)).mono ?_; rintro e w1 ⟨A1, n1, c1, rfl, hown1, hb1⟩
  have hl1 : n1 ≤ l.length + 10 := by have := own_len hown1; simp at this; omega
  go_wp2_with (at_builtin; refine wpList_app_str rfl (.tmp 9) (.tmp 10) byteElem Try.underlying9 rfl w.heap.size _ rfl hown1 s rfl (by omega) hb1.size ?_; intro A3 c3 w3 hown3 hg3)
  go_ret
  rw [← bv_append, List.append_assoc, ← textL] at hown3
  exact ⟨A3, _, c3, rfl, hown3, below_app hb1 hown1 hg3 hb1.size⟩

end Go.Proofs.Ytpkoijlbbfffiaa.O
