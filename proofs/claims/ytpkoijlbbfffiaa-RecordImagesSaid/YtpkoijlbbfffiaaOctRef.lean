/- The contracts of the reference's Uint, Int, Text, Word. -/
import Derived.Test.YtpkoijlbbfffiaaOctPut2
namespace Go.Proofs.Ytpkoijlbbfffiaa.O
open Go.RowKit

theorem bv_one_lit (x : Int) (k : Nat) (hk : k < 256) (hx : x = (k : Int)) : [Value.int .u8 x] = bv [UInt8.ofNat k] := bv_push [] x k hk hx
/-- The row of a literal of bytes. -/
theorem own_bytes (w : World) {base : Nat} (xs : List Value) (l : List UInt8) (hx : xs = bv l) (k : Nat) (hk : xs.length = k) (hb : base ≤ w.heap.size) (hl : k ≤ 1000000) :
    (w.alloc (.cells xs.toArray 5)).ownsRow base 5 1 (.slice (some ⟨w.heap.size, 0, none⟩) k k) k (bv l) := by
  subst hk
  have := own_lit w (base := base) (e := 5) xs hb (by unfold maxLen; omega)
  rwa [hx] at this ⊢

set_option maxRecDepth 100000 in
set_option maxHeartbeats 1000000 in
theorem refUint_any : ∀ (f u : Nat) (w : World), u < 128 ^ (f + 1) → u < 18446744073709551616 → Calls Try.prog 132 #[.int .u64 u] w (RetB (uintL u) w)
  | 0, u, w, h, _ => by
    have hu : u < 128 := by simpa using h
    clear h
    go_enter Try.func132, Try.ntmps132
    go_wp2_with fail
    go_ret
    exact ⟨_, _, _, rfl, own_bytes w [Value.int .u8 (u : Int)] (uintL u) (by rw [uintL_lt hu]; exact bv_one_lit _ u (by omega) rfl) 1 rfl (Nat.le_refl _) (by omega), (Below.refl _ _).alloc (Nat.le_refl _) _⟩
  | f + 1, u, w, h, hx => by
    have ih0 := refUint_any f (u / 128)
    by_cases hu : u < 128
    · clear h ih0
      go_enter Try.func132, Try.ntmps132
      go_wp2_with fail
      go_ret
      exact ⟨_, _, _, rfl, own_bytes w [Value.int .u8 (u : Int)] (uintL u) (by rw [uintL_lt hu]; exact bv_one_lit _ u (by omega) rfl) 1 rfl (Nat.le_refl _) (by omega), (Below.refl _ _).alloc (Nat.le_refl _) _⟩
    · have ih := fun W => ih0 W (by rw [Nat.pow_succ] at h; omega) (by omega)
      have IH := Lib.hid ih
      clear h ih ih0
      have h10 := uintL_len10 (u / 128) (by omega)
      have ed : ((u : Int) / 128) = ((u / 128 : Nat) : Int) := by simp
      have ED := Lib.hid ed; clear ed
      go_enter Try.func132, Try.ntmps132
      go_wp2_with fail
      rw [ED.out]
      have hown0 := own_bytes w (base := w.heap.size) [Value.int .u8 ((u : Int) % 128 + 128)] [UInt8.ofNat (u % 128 + 128)] (bv_one_lit _ _ (by omega) (by simp)) 1 rfl (Nat.le_refl _) (by omega)
      have hb0 := (Below.refl w.heap.size w).alloc (Nat.le_refl _) (.cells [Value.int .u8 ((u : Int) % 128 + 128)].toArray 5)
      have HO := Lib.hid hown0; clear hown0
      refine (IH.out _).mono ?_; rintro e w1 ⟨A1, n1, c1, rfl, hown1, hb1⟩
      have hl1 : n1 ≤ 10 := by have := own_len hown1; omega
      have hown := own_below HO.out hb1
      have hb2 := bthen hb0 hb1
      have hr := Rd.of_own hown1
      clear hown1 HO hb0
      go_wp2_with (at_builtin; refine wpList_app rfl (.tmp 12) (.tmp 15) byteElem rfl w.heap.size _ rfl hown rfl _ hr (bv_one _) (by unfold maxLen; omega) (by omega) hb2.size ?_; intro A3 c3 w3 hown3 hg3 _)
      go_ret
      rw [← bv_append, List.singleton_append, ← uintL_ge (by omega)] at hown3
      exact ⟨A3, _, c3, rfl, hown3, below_app hb2 hown hg3 hb2.size⟩

theorem refUint (u : Nat) (w : World) (h : u < 18446744073709551616) : Calls Try.prog 132 #[.int .u64 u] w (RetB (uintL u) w) := refUint_any 9 u w (by omega) h

set_option maxRecDepth 100000 in
set_option maxHeartbeats 1000000 in
theorem refInt (x : Int) (w : World) (h1 : -9223372036854775808 ≤ x) (h2 : x ≤ 9223372036854775807) : Calls Try.prog 105 #[.int .i64 x] w (RetB (uintL (zig x)) w) := by
  have hz := zig_lt x h1 h2
  by_cases h0 : 0 ≤ x
  · have e : Hid (x * 2 = (zig x : Int)) := Lib.hid (by simp only [zig, if_pos h0]; omega)
    go_enter Try.func105, Try.ntmps105
    go_wp2_with fail
    rw [e.out]
    refine (refUint (zig x) _ hz).mono ?_; rintro e w1 ⟨A1, n1, c1, rfl, hown1, hb1⟩
    go_wp2_with fail
    go_ret
    exact ⟨A1, n1, c1, rfl, hown1, hb1⟩
  · have e : Hid (-(x + 1) * 2 + 1 = (zig x : Int)) := Lib.hid (by simp only [zig, if_neg h0]; omega)
    go_enter Try.func105, Try.ntmps105
    go_wp2_with fail
    rw [e.out]
    refine (refUint (zig x) _ hz).mono ?_; rintro e w1 ⟨A1, n1, c1, rfl, hown1, hb1⟩
    go_wp2_with fail
    go_ret
    exact ⟨A1, n1, c1, rfl, hown1, hb1⟩

set_option maxRecDepth 100000 in
set_option maxHeartbeats 1000000 in
theorem refText (s : List UInt8) (w : World) (h : s.length ≤ 100000000000000) : Calls Try.prog 106 #[.string ⟨s.toArray⟩] w (RetB (textL s) w) := by
  have hs : (ByteArray.mk s.toArray).size = s.length := by simp [ByteArray.size]
  go_enter Try.func106, Try.ntmps106
  go_wp2_with fail
  refine (refUint s.length _ (by omega)).mono ?_; rintro e w1 ⟨A1, n1, c1, rfl, hown1, hb1⟩
  have hl1 : n1 ≤ 10 := by have := own_len hown1; have := uintL_len10 s.length (by omega); omega
  go_wp2_with (first
    | (at_builtin; refine wpList_app rfl (.tmp 6) (.tmp 8) byteElem rfl w.heap.size _ rfl hown rfl _ hr2 (bv_one _) (by unfold maxLen; omega) (by omega) hb.size ?_; intro A3 c3 w3 hown3 hg3 _)
    | (refine wpList_bytes rfl (.tmp 7) rfl Try.underlying9 Try.underlying28 Try.underlying5 s rfl ?_; intro A2 n2 c2 w2 hn2 _ hr2 hb2; obtain rfl := hn2; have hown := own_below hown1 hb2; have hb := bthen hb1 hb2; clear hown1))
  go_ret
  rw [← bv_append, ← textL] at hown3
  exact ⟨A3, _, c3, rfl, hown3, below_app hb hown hg3 hb.size⟩
end Go.Proofs.Ytpkoijlbbfffiaa.O
