/- The contracts of octets.PutInt, PutText, PutWord. -/
import Derived.Test.YtkcehoejcklmfaaOctPut
namespace Go.Proofs.Ytkcehoejcklmfaa.O
open Go.RowKit

theorem xor_ones (a : Nat) (h : a < 18446744073709551616) : a ^^^ 18446744073709551615 = 18446744073709551615 - a := by
  have e := BitVec.toNat_xor (BitVec.ofNat 64 a) (BitVec.allOnes 64)
  rw [BitVec.xor_allOnes, BitVec.toNat_not, BitVec.toNat_allOnes, BitVec.toNat_ofNat, Nat.mod_eq_of_lt (by omega)] at e
  exact e.symm
theorem zig_pos (x : Int) (h0 : 0 ≤ x) (h2 : x ≤ 9223372036854775807) : bits .xor .u64 (IntKind.u64.wrap (wrap64 (x * 2))) (x / 9223372036854775808) = (zig x : Int) := by
  have e1 : x / 9223372036854775808 = 0 := by omega
  have e2 : IntKind.u64.wrap (wrap64 (x * 2)) = x * 2 := by
    simp only [IntKind.wrap, wrap64, IntKind.signed, IntKind.bits]
    simp
    omega
  rw [e1, e2, u64_xor _ _ (by omega) (by omega) (by omega) (by omega)]
  simp only [zig, if_pos h0]
  simp
  omega
theorem zig_neg (x : Int) (h0 : x < 0) (h1 : -9223372036854775808 ≤ x) : bits .xor .u64 (IntKind.u64.wrap (wrap64 (x * 2))) (IntKind.u64.wrap (x / 9223372036854775808)) = (zig x : Int) := by
  have e1 : x / 9223372036854775808 = -1 := by omega
  have e3 : IntKind.u64.wrap (-1) = 18446744073709551615 := by decide
  have e2 : IntKind.u64.wrap (wrap64 (x * 2)) = x * 2 + 18446744073709551616 := by
    simp only [IntKind.wrap, wrap64, IntKind.signed, IntKind.bits]
    simp
    omega
  rw [e1, e2, e3, u64_xor _ _ (by omega) (by omega) (by omega) (by omega), show (18446744073709551615 : Int).toNat = 18446744073709551615 from rfl, xor_ones _ (by omega)]
  simp only [zig, if_neg (show ¬ 0 ≤ x by omega)]
  omega

set_option maxRecDepth 100000 in
set_option maxHeartbeats 1000000 in
theorem putText_any (A : Option Addr) (n c : Nat) (l s : List UInt8) (w : World) (h : Rd w w.heap.size 1 A n (bv l)) (hn : n + s.length ≤ 140737488355300) :
    Calls Try.prog 66 #[.slice A n c, .string ⟨s.toArray⟩] w (RetB (l ++ textL s) w) := by
  have h10 := uintL_len10 s.length (by omega)
  have hl : l.length = n := by have := h.1; simp at this; omega
  subst hl
  have hs : (ByteArray.mk s.toArray).size = s.length := by simp [ByteArray.size]
  go_enter Try.func66, Try.ntmps66
  go_wp2_with fail
  refine (putUint_any A l.length c s.length l _ h (by omega) (by omega)).mono ?_; rintro e w1 ⟨A1, n1, c1, rfl, hown1, hb1⟩
  have hl1 : n1 ≤ l.length + 10 := by have := own_len hown1; simp at this; omega
  go_wp2_with (at_builtin; refine wpList_app_str rfl (.tmp 9) (.tmp 10) byteElem Try.underlying9 rfl w.heap.size _ rfl hown1 s rfl (by omega) hb1.size ?_; intro A3 c3 w3 hown3 hg3)
  go_ret
  rw [← bv_append, List.append_assoc, ← textL] at hown3
  exact ⟨A3, _, c3, rfl, hown3, below_app hb1 hown1 hg3 hb1.size⟩

set_option maxRecDepth 100000 in
set_option maxHeartbeats 1000000 in
theorem putWord_any (A : Option Addr) (n c x : Nat) (l : List UInt8) (w : World) (h : Rd w w.heap.size 1 A n (bv l)) (hn : n ≤ 140737488355300) (_hx : x < 4294967296) :
    Calls Try.prog 67 #[.slice A n c, .int .u32 x] w (RetB (l ++ wordL x) w) := by
  have hl : l.length = n := by have := h.1; simp at this; omega
  subst hl
  go_enter Try.func67, Try.ntmps67
  go_wp2_with fail
  refine (room_any A l.length c 4 l _ h (by omega)).mono ?_; rintro e w1 ⟨A1, n1, c1, rfl, hown1, hb1⟩
  obtain rfl := own_len hown1
  go_wp2_with fail
  go_loopw [5, 6, 9] (fun o _ i wr => ∃ (k : Nat) (A2 : Option Addr) (c2 : Nat), k ≤ 4 ∧ i = .int .i64 k ∧ o = .slice A2 (l.length + k) c2 ∧
      wr.ownsRow w.heap.size 5 1 (.slice A2 (l.length + k) c2) (l.length + k) (bv (l ++ (wordL x).take k)) ∧ Below w.heap.size w wr) (fun _ _ i _ => (4 - intOf i).toNat)
  case atStart => exact ⟨0, A1, c1, by omega, rfl, rfl, by simpa using hown1, hb1⟩
  case round =>
    obtain ⟨k, A2, c2, hk, rfl, rfl, hown, hb⟩ := hrel
    have hbs := hb.size
    clear hown1 hb1
    by_cases hk4 : k < 4
    · go_wp2_with (at_builtin; refine wpList_app rfl (.tmp 12) (.tmp 19) byteElem rfl w.heap.size _ rfl (hown.alloc _) rfl [_] (Rd.built _ _ _) (by intro u hu; simp at hu; subst hu; rfl) (by unfold maxLen; omega) (by omega) (by simp; omega) ?_; intro A3 c3 w3 hown3 hg3 _)
      go_roundw
      case rel => exact ⟨k + 1, A3, c3, by omega, by go_num, by simp; omega, by rw [bv_push _ _ (x / 2 ^ (24 - 8 * k) % 256) (by omega) (by simp), List.append_assoc, ← wordL_step x k hk4] at hown3; exact hown3, below_app (hb.alloc (by omega) _) (hown.alloc _) hg3 (by simp; omega)⟩
      case measure => simp [intOf]; omega
    · obtain rfl : k = 4 := by omega
      go_wp2
      go_ret
      exact ⟨A2, _, c2, rfl, by simpa [wordL] using hown, hb⟩
end Go.Proofs.Ytkcehoejcklmfaa.O
