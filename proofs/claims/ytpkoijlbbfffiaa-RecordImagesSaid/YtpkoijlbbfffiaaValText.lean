/- The contracts of value.digits, dec, quoted, Print. -/
import Derived.Test.YtpkoijlbbfffiaaValFns2
import Derived.Test.YtpkoijlbbfffiaaValPlain2
import Derived.Test.YtpkoijlbbfffiaaBuilder
import Derived.Test.YtpkoijlbbfffiaaSched
namespace Go.Proofs.Ytpkoijlbbfffiaa.V
open Go.RowKit O

theorem dig_at (n : Nat) (h : n < 10) : (ByteArray.mk #[48, 49, 50, 51, 52, 53, 54, 55, 56, 57]).extract n (n + 1) = ByteArray.mk (digN n).toArray := by
  rw [digN_lt h]
  obtain rfl | rfl | rfl | rfl | rfl | rfl | rfl | rfl | rfl | rfl : n = 0 ∨ n = 1 ∨ n = 2 ∨ n = 3 ∨ n = 4 ∨ n = 5 ∨ n = 6 ∨ n = 7 ∨ n = 8 ∨ n = 9 := by omega
  all_goals rfl
set_option maxHeartbeats 1000000 in
set_option maxRecDepth 100000 in
theorem digits_any (n : Nat) : ∀ w : World, n < 18446744073709551616 → Calls Try.prog 142 #[.int .u64 n] w fun e w' => e = .returned (.string ⟨(digN n).toArray⟩) ∧ Below w.heap.size w w' := by
  induction n using Nat.strongRecOn with
  | ind n ih =>
    intro w hn
    by_cases h : n < 10
    · have hd := Lib.hid (dig_at n h)
      go_enter Try.func142, Try.ntmps142
      go_wp2_with fail
      go_ret
      refine ⟨?_, Below.refl _ _⟩
      rw [← hd.out]
      rfl
    · have I1 := Lib.hid (ih (n / 10) (by omega))
      have I2 := Lib.hid (ih (n % 10) (by omega))
      have hg := Lib.hid (digN_ge (n := n) (by omega))
      have l1 := digN_len20 (n / 10) (by omega)
      have l2 := Lib.hid (digN_lt (n := n % 10) (by omega))
      clear ih
      go_enter Try.func142, Try.ntmps142
      go_wp2_with fail
      rw [show (n : Int) / 10 = ((n / 10 : Nat) : Int) by omega]
      refine (I1.out _ (by omega)).mono ?_; rintro e w1 ⟨rfl, b1⟩
      have hlim : (digN (n / 10)).length + (digN (n % 10)).length ≤ 9223372036854775807 := by rw [l2.out]; simp; omega
      go_wp2_with fail
      rw [show (n : Int) % 10 = ((n % 10 : Nat) : Int) by omega]
      refine (I2.out _ (by omega)).mono ?_; rintro e w2 ⟨rfl, b2⟩
      go_wp2_with fail
      go_ret
      rw [ba_append]
      exact ⟨by rw [hg.out, l2.out]; rfl, bthen b1 b2⟩
set_option maxHeartbeats 1000000 in
set_option maxRecDepth 100000 in
theorem dec_any (n : Int) (w : World) (h1 : -9223372036854775808 ≤ n) (h2 : n ≤ 9223372036854775807) : Calls Try.prog 99 #[.int .i64 n] w fun e w' => e = .returned (.string ⟨(decL n).toArray⟩) ∧ Below w.heap.size w w' := by
  have hl := digN_len20 n.natAbs (by omega)
  by_cases h0 : n < 0
  · have hd : Hid (decL n = [45] ++ digN n.natAbs) := Lib.hid (by rw [decL, if_pos h0]; rfl)
    have hlim : (1 : Nat) + (digN n.natAbs).length ≤ 9223372036854775807 := by omega
    go_enter Try.func99, Try.ntmps99
    go_wp2_with fail
    rw [show -(n + 1) + 1 = ((n.natAbs : Nat) : Int) by omega]
    refine (digits_any n.natAbs _ (by omega)).mono ?_; rintro e w1 ⟨rfl, b1⟩
    go_wp2_with fail
    go_ret
    rw [show (ByteArray.mk #[45]) = ByteArray.mk [45].toArray from rfl, ba_append]
    exact ⟨by rw [hd.out]; rfl, b1⟩
  · have hd : Hid (decL n = digN n.natAbs) := Lib.hid (by rw [decL, if_neg h0])
    go_enter Try.func99, Try.ntmps99
    go_wp2_with fail
    rw [show n = ((n.natAbs : Nat) : Int) by omega]
    refine (digits_any n.natAbs _ (by omega)).mono ?_; rintro e w1 ⟨rfl, b1⟩
    go_wp2_with fail
    go_ret
    exact ⟨by rw [hd.out]; rfl, b1⟩
theorem byteCells_bv (l : List UInt8) : Lib.byteCells l = bv l := by simp [Lib.byteCells, bv]
/-- A builder of the call's own, in the block g, that holds the bytes l. -/
def Bld (g : Nat) (l : List UInt8) (w : World) : Prop := Lib.IsBuilder 169 5 g g (bv l) w
theorem Bld.fresh (w : World) : Bld w.heap.size [] (w.alloc (.cells #[.pointer none, .slice none 0 0] 169)) := by
  refine .inl ⟨Nat.le_refl _, .slice none 0 0, heap_alloc_new _ _, ⟨rfl, .inl ⟨rfl, rfl⟩⟩, by simp [Value.ownBlock]⟩
theorem Bld.lt {g : Nat} {l : List UInt8} {w : World} (h : Bld g l w) : g < w.heap.size := by
  rcases h with h | h
  · exact h.lt
  · exact h.lt
theorem write_any {g : Nat} {l : List UInt8} {w : World} (h : Bld g l w) (c : UInt8) {x : Int} (hx : x = (c.toNat : Int)) (hl : l.length ≤ 100000000000) :
    Calls Try.prog 140 #[.pointer (some ⟨g, 0, none⟩), .int .u8 x] w fun e w' => e = .returned .nilIface ∧ Bld g (l ++ [c]) w' ∧ Below g w w' := by
  subst hx
  refine (writeByte_any g g (bv l) c.toNat w h (by simp; omega) (Nat.le_of_lt h.lt)).mono ?_
  rintro e w1 ⟨rfl, h1, b1⟩
  exact ⟨rfl, .inr (by simpa [bv] using h1), b1⟩
theorem string_any {g : Nat} {l : List UInt8} {w : World} (h : Bld g l w) :
    Calls Try.prog 141 #[.pointer (some ⟨g, 0, none⟩)] w fun e w' => e = .returned (.string ⟨l.toArray⟩) ∧ Below g w w' :=
  Try.Builder_String_any g g l w (by rw [byteCells_bv]; exact h) (Nat.le_of_lt h.lt)
theorem esc_step {s : List UInt8} {k : Nat} (h : k < s.length) : escL (s.take (k + 1)) = escL (s.take k) ++ esc s[k] := by
  rw [List.take_succ_eq_append_getElem h, escL_snoc]
set_option maxHeartbeats 1000000 in
set_option maxRecDepth 100000 in
theorem quoted_any (s : List UInt8) (w : World) (hs : s.length ≤ 1000000000) : Calls Try.prog 100 #[.string ⟨s.toArray⟩] w fun e w' => e = .returned (.string ⟨(quoteL s).toArray⟩) ∧ Below w.heap.size w w' := by
  have hsz : (ByteArray.mk s.toArray).size = s.length := by simp [ByteArray.size]
  go_enter Try.func100, Try.ntmps100
  go_wp2_with fail
  refine (write_any (Bld.fresh w) 34 (by decide) (by simp)).mono ?_; rintro e w1 ⟨rfl, d1, b1⟩
  have B1 : Below w.heap.size w w1 := Below.trans ((Below.refl _ _).alloc (Nat.le_refl _) _) b1
  go_wp2_with fail
  go_loopw [4, 8] (fun _ i wr => ∃ k : Nat, k ≤ s.length ∧ i = .int .i64 k ∧ Bld w.heap.size ([34] ++ escL (s.take k)) wr ∧ Below w.heap.size w wr) (fun _ i _ => s.length - (intOf i).toNat)
  case atStart => exact ⟨0, by omega, rfl, by simpa [escL] using d1, B1⟩
  case round =>
    obtain ⟨k, hk, rfl, hd, hb⟩ := hrel
    clear d1 b1 B1
    have hel : ([34] ++ escL (s.take k)).length ≤ 10000000000 := by have := escL_len (s.take k); simp at this ⊢; omega
    by_cases hlt : k < s.length
    · have hn := Lib.hid (esc_step hlt)
      generalize hc : s[k] = c at hn
      have hx := ba_at s k hlt hc
      by_cases h34 : c.toNat = 34 ∨ c.toNat = 92
      · have he : Hid (esc c = [92, c]) := Lib.hid (by unfold esc; rw [if_pos h34])
        rcases h34 with h34 | h34
        · have h34' : (c.toNat : Int) = 34 := by omega
          clear h34
          go_wp2_with fail
          refine (write_any hd 92 (by decide) (by omega)).mono ?_; rintro e w2 ⟨rfl, d2, b2⟩
          go_wp2_with fail
          refine (write_any d2 c (by omega) (by simp at hel ⊢; omega)).mono ?_; rintro e w3 ⟨rfl, d3, b3⟩
          go_wp2_with fail
          go_roundw
          case rel => exact ⟨k + 1, by omega, by go_num, by rw [hn.out, he.out]; simpa using d3, Below.trans (Below.trans hb b2) b3⟩
          case measure => simp [intOf]; omega
        · have h34' : (c.toNat : Int) = 92 := by omega
          clear h34
          go_wp2_with fail
          refine (write_any hd 92 (by decide) (by omega)).mono ?_; rintro e w2 ⟨rfl, d2, b2⟩
          go_wp2_with fail
          refine (write_any d2 c (by omega) (by simp at hel ⊢; omega)).mono ?_; rintro e w3 ⟨rfl, d3, b3⟩
          go_wp2_with fail
          go_roundw
          case rel => exact ⟨k + 1, by omega, by go_num, by rw [hn.out, he.out]; simpa using d3, Below.trans (Below.trans hb b2) b3⟩
          case measure => simp [intOf]; omega
      · have he : Hid (esc c = [c]) := Lib.hid (by unfold esc; rw [if_neg h34])
        have g1 : ((c.toNat : Int) == 34) = false := by simp; omega
        have g2 : ((c.toNat : Int) == 92) = false := by simp; omega
        go_wp2_with fail
        refine (write_any hd c (by omega) (by omega)).mono ?_; rintro e w3 ⟨rfl, d3, b3⟩
        go_wp2_with fail
        go_roundw
        case rel => exact ⟨k + 1, by omega, by go_num, by rw [hn.out, he.out]; simpa using d3, Below.trans hb b3⟩
        case measure => simp [intOf]; omega
    · obtain rfl : k = s.length := by omega
      go_wp2_with fail
      refine (write_any hd 34 (by decide) (by omega)).mono ?_; rintro e w3 ⟨rfl, d3, b3⟩
      go_wp2_with fail
      refine (string_any d3).mono ?_; rintro e w4 ⟨rfl, b4⟩
      go_wp2_with fail
      go_ret
      exact ⟨by simp [quoteL], Below.trans (Below.trans hb b3) b4⟩
end Go.Proofs.Ytpkoijlbbfffiaa.V
