/- WalFrames' walk. (Printed by gen_walframes.py.) -/
import Derived.Test.YtkcehoejcklmfaaWalRef2
namespace Go.Proofs.Ytkcehoejcklmfaa.walFrames
open Go.RowKit O L

theorem resM_eq (l : List UInt8) : resM (imageOf l) = .tuple #[.int .u32 (imG l), .string ⟨(imS l).toArray⟩, .bool (imageOf l).isSome] := by
  unfold imG imS
  cases imageOf l with
  | none => rfl
  | some q => rfl
theorem sizes (m : Nat) (h : 128 ≤ m) : (uintL m).length = (uintL (m / 128)).length + 1 := by rw [uintL_ge h]; rfl

set_option maxRecDepth 100000 in
set_option maxHeartbeats 4000000 in
theorem walk1 (g : Nat) (A : Option Addr) (n c : Nat) (l : List UInt8) (N : Int) (w : World) (hg : g < 4294967296) (h1 : IsB w A n c l) (hx1 : -9223372036854775808 ≤ N) (hx2 : N ≤ 9223372036854775807) (hN : N < 0) :
    Calls Try.prog 8 #[.int .u32 (g : Int), .slice A n c, .int .i64 N] w fun e w' => e = .returned (.bool true) ∧ Below w.heap.size w w' := by
  have hcc := h1.2.2
  unfold maxLen at hcc
  obtain ⟨m, hm, hmx⟩ : ∃ m : Nat, m = 0 ∧ N < 0 := ⟨0, rfl, hN⟩
  have hcost : costN N = 8 + (uintL m).length + m := by unfold costN; rw [show (max 0 (min N 1048576)).toNat = m by omega]
  have hm10 := uintL_len10 m (by omega)
  have hm2 : m ≤ 1048576 := by omega
  have H1 := Lib.hid h1; clear h1
  have Hhcost := Lib.hid hcost; clear hcost
  go_enter Try.func8, Try.ntmps8
  go_wp2_with fail
  refine (L.cut_any A n c l w H1.out).mono ?_; rintro e w1 ⟨x, rfl, hx300, hxc, hr, rfl⟩
  generalize hl' : l.take 300 = l' at hr
  clear hl'
  have hxl : l'.length = x := by have := hr.1; simp at this; omega
  have hc1 := costN_len l' g (by omega)
  rw [hxl] at hc1
  have Hhxl := Lib.hid hxl; clear hxl
  have Hhr := Lib.hid hr; clear hr
  go_wp2_with fail
  refine (frame_any A x c g l' _ Hhr.out (by omega) hg).mono ?_; rintro e w2 ⟨A2, n2, c2, rfl, o2, b2⟩
  have q2 := strq (c := c2) (Rd.of_own o2)
  generalize hfl : frameL g l' = f at *
  have HF := Lib.hid hfl; clear hfl
  have Ho2 := Lib.hid o2; clear o2
  have Hb2 := Lib.hid b2; clear b2
  have Hhc1 := Lib.hid hc1; clear hc1
  go_wp2_with fail
  clear q2
  refine (readImage_any A x c l' _ (Hhr.out.next Hb2.out) hxc (by omega) (by omega)).mono ?_; rintro e w3 ⟨A3, n3, c3, rfl, r3, hnc3, b3⟩
  have hRM := resM_eq l'
  have B3 := bthen Hb2.out b3
  have q3 := strq (c := c) (Hhr.out.next B3)
  generalize imG l' = ig at *
  generalize imS l' = is at *
  generalize (imageOf l').isSome = ib at *
  have Hr3 := Lib.hid r3; clear r3
  have Hb3 := Lib.hid b3; clear b3
  have HhRM := Lib.hid hRM; clear hRM
  have HB3 := Lib.hid B3; clear B3
  go_wp2_with fail
  clear q3
  refine (rimage_any l' _ (by rw [Hhxl.out]; omega)).mono ?_; rintro e w4 ⟨rfl, b4⟩
  rw [HhRM.out]
  have B4 := bthen HB3.out b4
  have r4 := Hr3.out.next b4
  have Hb4 := Lib.hid b4; clear b4
  have HB4 := Lib.hid B4; clear B4
  have Hr4 := Lib.hid r4; clear r4
  go_wp2_with fail
  go_loop [15, 16] (fun s k => ∃ a b : Nat, s = .int .i64 (a : Int) ∧ k = .int .i64 (b : Int) ∧ b ≤ 1048576 ∧ a ≤ 11 ∧ a + (uintL b).length = (uintL m).length + 1) (fun _ k => (intOf k).toNat)
  case atStart => exact ⟨1, m, rfl, by rw [hm]; rfl, by omega, by omega, by omega⟩
  case round =>
    obtain ⟨a, b, rfl, rfl, hb, ha, hab⟩ := hrel
    by_cases h128 : 128 ≤ b
    · have hs := sizes b h128
      have hpos := uintL_pos (b / 128)
      have Hhab := Lib.hid hab; clear hab
      have Hhs := Lib.hid hs; clear hs
      go_wp2_with fail
      go_round
      case rel => exact ⟨a + 1, b / 128, by go_num, by go_num, by omega, by have := Hhab.out; have := Hhs.out; omega, by have := Hhab.out; have := Hhs.out; omega⟩
      case measure => simp [intOf]; omega
    · have hlt : b < 128 := by omega
      have hu1 : (uintL b).length = 1 := by rw [uintL_lt hlt]; rfl
      have ha2 : a = (uintL m).length := by omega
      have haI : (a : Int) ≤ 11 := by omega
      have hsum : (costN N : Int) = (m : Int) + (a : Int) + 8 := by rw [Hhcost.out, ha2]; omega
      clear h128 hu1 hab ha2
      have Hhsum := Lib.hid hsum; clear hsum
      have q4 := strq (c := c) (Hhr.out.next HB4.out)
      go_wp2_with fail
      clear q4
      refine (rframe_any g l' _ hg (by rw [Hhxl.out]; omega)).mono ?_; rintro e w5 ⟨rfl, b5⟩
      rw [HF.out]
      have B5 := bthen HB4.out b5
      go_wp2_with fail
      refine (image_any A x c g l' _ (Hhr.out.next B5) (by omega) hg).mono ?_; rintro e w6 ⟨A6, n6, c6, rfl, o6, b6⟩
      rw [HF.out] at o6
      have q6 := strq (c := c6) (Rd.of_own o6)
      have B6 := bthen B5 b6
      have r6 := (Hr4.out.next b5).next b6
      clear b5 B5 b6
      have Ho6 := Lib.hid o6; clear o6
      have HB6 := Lib.hid B6; clear B6
      have Hr6 := Lib.hid r6; clear r6
      go_wp2_with fail
      clear q6
      refine (cost_any x _).mono ?_; rintro e w7 ⟨rfl, rfl⟩
      rw [Hhc1.out]
      go_wp2_with fail
      refine (cost_any N _).mono ?_; rintro e w7 ⟨rfl, rfl⟩
      rw [Hhsum.out]
      have q7 := strq (c := c3) Hr6.out
      go_wp2_with fail
      clear q7
      refine (L.lives_any _).mono ?_; rintro e w8 ⟨rfl, b8⟩
      go_wp2_with fail
      go_ret
      exact ⟨rfl, bthen HB6.out b8⟩

set_option maxRecDepth 100000 in
set_option maxHeartbeats 4000000 in
theorem walk2 (g : Nat) (A : Option Addr) (n c : Nat) (l : List UInt8) (N : Int) (w : World) (hg : g < 4294967296) (h1 : IsB w A n c l) (hx1 : -9223372036854775808 ≤ N) (hx2 : N ≤ 9223372036854775807) (hN : 1048576 < N) :
    Calls Try.prog 8 #[.int .u32 (g : Int), .slice A n c, .int .i64 N] w fun e w' => e = .returned (.bool true) ∧ Below w.heap.size w w' := by
  have hcc := h1.2.2
  unfold maxLen at hcc
  obtain ⟨m, hm, hmx⟩ : ∃ m : Nat, m = 1048576 ∧ 1048576 < N := ⟨1048576, rfl, hN⟩
  have hN0 : 0 ≤ N := by omega
  have hcost : costN N = 8 + (uintL m).length + m := by unfold costN; rw [show (max 0 (min N 1048576)).toNat = m by omega]
  have hm10 := uintL_len10 m (by omega)
  have hm2 : m ≤ 1048576 := by omega
  have H1 := Lib.hid h1; clear h1
  have Hhcost := Lib.hid hcost; clear hcost
  go_enter Try.func8, Try.ntmps8
  go_wp2_with fail
  refine (L.cut_any A n c l w H1.out).mono ?_; rintro e w1 ⟨x, rfl, hx300, hxc, hr, rfl⟩
  generalize hl' : l.take 300 = l' at hr
  clear hl'
  have hxl : l'.length = x := by have := hr.1; simp at this; omega
  have hc1 := costN_len l' g (by omega)
  rw [hxl] at hc1
  have Hhxl := Lib.hid hxl; clear hxl
  have Hhr := Lib.hid hr; clear hr
  go_wp2_with fail
  refine (frame_any A x c g l' _ Hhr.out (by omega) hg).mono ?_; rintro e w2 ⟨A2, n2, c2, rfl, o2, b2⟩
  have q2 := strq (c := c2) (Rd.of_own o2)
  generalize hfl : frameL g l' = f at *
  have HF := Lib.hid hfl; clear hfl
  have Ho2 := Lib.hid o2; clear o2
  have Hb2 := Lib.hid b2; clear b2
  have Hhc1 := Lib.hid hc1; clear hc1
  go_wp2_with fail
  clear q2
  refine (readImage_any A x c l' _ (Hhr.out.next Hb2.out) hxc (by omega) (by omega)).mono ?_; rintro e w3 ⟨A3, n3, c3, rfl, r3, hnc3, b3⟩
  have hRM := resM_eq l'
  have B3 := bthen Hb2.out b3
  have q3 := strq (c := c) (Hhr.out.next B3)
  generalize imG l' = ig at *
  generalize imS l' = is at *
  generalize (imageOf l').isSome = ib at *
  have Hr3 := Lib.hid r3; clear r3
  have Hb3 := Lib.hid b3; clear b3
  have HhRM := Lib.hid hRM; clear hRM
  have HB3 := Lib.hid B3; clear B3
  go_wp2_with fail
  clear q3
  refine (rimage_any l' _ (by rw [Hhxl.out]; omega)).mono ?_; rintro e w4 ⟨rfl, b4⟩
  rw [HhRM.out]
  have B4 := bthen HB3.out b4
  have r4 := Hr3.out.next b4
  have Hb4 := Lib.hid b4; clear b4
  have HB4 := Lib.hid B4; clear B4
  have Hr4 := Lib.hid r4; clear r4
  go_wp2_with fail
  go_loop [15, 16] (fun s k => ∃ a b : Nat, s = .int .i64 (a : Int) ∧ k = .int .i64 (b : Int) ∧ b ≤ 1048576 ∧ a ≤ 11 ∧ a + (uintL b).length = (uintL m).length + 1) (fun _ k => (intOf k).toNat)
  case atStart => exact ⟨1, m, rfl, by rw [hm]; rfl, by omega, by omega, by omega⟩
  case round =>
    obtain ⟨a, b, rfl, rfl, hb, ha, hab⟩ := hrel
    by_cases h128 : 128 ≤ b
    · have hs := sizes b h128
      have hpos := uintL_pos (b / 128)
      have Hhab := Lib.hid hab; clear hab
      have Hhs := Lib.hid hs; clear hs
      go_wp2_with fail
      go_round
      case rel => exact ⟨a + 1, b / 128, by go_num, by go_num, by omega, by have := Hhab.out; have := Hhs.out; omega, by have := Hhab.out; have := Hhs.out; omega⟩
      case measure => simp [intOf]; omega
    · have hlt : b < 128 := by omega
      have hu1 : (uintL b).length = 1 := by rw [uintL_lt hlt]; rfl
      have ha2 : a = (uintL m).length := by omega
      have haI : (a : Int) ≤ 11 := by omega
      have hsum : (costN N : Int) = (m : Int) + (a : Int) + 8 := by rw [Hhcost.out, ha2]; omega
      clear h128 hu1 hab ha2
      have Hhsum := Lib.hid hsum; clear hsum
      have q4 := strq (c := c) (Hhr.out.next HB4.out)
      go_wp2_with fail
      clear q4
      refine (rframe_any g l' _ hg (by rw [Hhxl.out]; omega)).mono ?_; rintro e w5 ⟨rfl, b5⟩
      rw [HF.out]
      have B5 := bthen HB4.out b5
      go_wp2_with fail
      refine (image_any A x c g l' _ (Hhr.out.next B5) (by omega) hg).mono ?_; rintro e w6 ⟨A6, n6, c6, rfl, o6, b6⟩
      rw [HF.out] at o6
      have q6 := strq (c := c6) (Rd.of_own o6)
      have B6 := bthen B5 b6
      have r6 := (Hr4.out.next b5).next b6
      clear b5 B5 b6
      have Ho6 := Lib.hid o6; clear o6
      have HB6 := Lib.hid B6; clear B6
      have Hr6 := Lib.hid r6; clear r6
      go_wp2_with fail
      clear q6
      refine (cost_any x _).mono ?_; rintro e w7 ⟨rfl, rfl⟩
      rw [Hhc1.out]
      go_wp2_with fail
      refine (cost_any N _).mono ?_; rintro e w7 ⟨rfl, rfl⟩
      rw [Hhsum.out]
      have q7 := strq (c := c3) Hr6.out
      go_wp2_with fail
      clear q7
      refine (L.lives_any _).mono ?_; rintro e w8 ⟨rfl, b8⟩
      go_wp2_with fail
      go_ret
      exact ⟨rfl, bthen HB6.out b8⟩

set_option maxRecDepth 100000 in
set_option maxHeartbeats 4000000 in
theorem walk3 (g : Nat) (A : Option Addr) (n c : Nat) (l : List UInt8) (N : Int) (w : World) (hg : g < 4294967296) (h1 : IsB w A n c l) (hx1 : -9223372036854775808 ≤ N) (hx2 : N ≤ 9223372036854775807) (hN : 0 ≤ N ∧ N ≤ 1048576) :
    Calls Try.prog 8 #[.int .u32 (g : Int), .slice A n c, .int .i64 N] w fun e w' => e = .returned (.bool true) ∧ Below w.heap.size w w' := by
  have hcc := h1.2.2
  unfold maxLen at hcc
  obtain ⟨hN0, hN1⟩ := hN
  obtain ⟨m, rfl⟩ := Int.eq_ofNat_of_zero_le hN0
  have hcost : costN (m : Int) = 8 + (uintL m).length + m := by unfold costN; rw [show (max 0 (min (m : Int) 1048576)).toNat = m by omega]
  have hm10 := uintL_len10 m (by omega)
  have hm2 : m ≤ 1048576 := by omega
  have H1 := Lib.hid h1; clear h1
  have Hhcost := Lib.hid hcost; clear hcost
  go_enter Try.func8, Try.ntmps8
  go_wp2_with fail
  refine (L.cut_any A n c l w H1.out).mono ?_; rintro e w1 ⟨x, rfl, hx300, hxc, hr, rfl⟩
  generalize hl' : l.take 300 = l' at hr
  clear hl'
  have hxl : l'.length = x := by have := hr.1; simp at this; omega
  have hc1 := costN_len l' g (by omega)
  rw [hxl] at hc1
  have Hhxl := Lib.hid hxl; clear hxl
  have Hhr := Lib.hid hr; clear hr
  go_wp2_with fail
  refine (frame_any A x c g l' _ Hhr.out (by omega) hg).mono ?_; rintro e w2 ⟨A2, n2, c2, rfl, o2, b2⟩
  have q2 := strq (c := c2) (Rd.of_own o2)
  generalize hfl : frameL g l' = f at *
  have HF := Lib.hid hfl; clear hfl
  have Ho2 := Lib.hid o2; clear o2
  have Hb2 := Lib.hid b2; clear b2
  have Hhc1 := Lib.hid hc1; clear hc1
  go_wp2_with fail
  clear q2
  refine (readImage_any A x c l' _ (Hhr.out.next Hb2.out) hxc (by omega) (by omega)).mono ?_; rintro e w3 ⟨A3, n3, c3, rfl, r3, hnc3, b3⟩
  have hRM := resM_eq l'
  have B3 := bthen Hb2.out b3
  have q3 := strq (c := c) (Hhr.out.next B3)
  generalize imG l' = ig at *
  generalize imS l' = is at *
  generalize (imageOf l').isSome = ib at *
  have Hr3 := Lib.hid r3; clear r3
  have Hb3 := Lib.hid b3; clear b3
  have HhRM := Lib.hid hRM; clear hRM
  have HB3 := Lib.hid B3; clear B3
  go_wp2_with fail
  clear q3
  refine (rimage_any l' _ (by rw [Hhxl.out]; omega)).mono ?_; rintro e w4 ⟨rfl, b4⟩
  rw [HhRM.out]
  have B4 := bthen HB3.out b4
  have r4 := Hr3.out.next b4
  have Hb4 := Lib.hid b4; clear b4
  have HB4 := Lib.hid B4; clear B4
  have Hr4 := Lib.hid r4; clear r4
  go_wp2_with fail
  go_loop [15, 16] (fun s k => ∃ a b : Nat, s = .int .i64 (a : Int) ∧ k = .int .i64 (b : Int) ∧ b ≤ 1048576 ∧ a ≤ 11 ∧ a + (uintL b).length = (uintL m).length + 1) (fun _ k => (intOf k).toNat)
  case atStart => exact ⟨1, m, rfl, rfl, by omega, by omega, by omega⟩
  case round =>
    obtain ⟨a, b, rfl, rfl, hb, ha, hab⟩ := hrel
    by_cases h128 : 128 ≤ b
    · have hs := sizes b h128
      have hpos := uintL_pos (b / 128)
      have Hhab := Lib.hid hab; clear hab
      have Hhs := Lib.hid hs; clear hs
      go_wp2_with fail
      go_round
      case rel => exact ⟨a + 1, b / 128, by go_num, by go_num, by omega, by have := Hhab.out; have := Hhs.out; omega, by have := Hhab.out; have := Hhs.out; omega⟩
      case measure => simp [intOf]; omega
    · have hlt : b < 128 := by omega
      have hu1 : (uintL b).length = 1 := by rw [uintL_lt hlt]; rfl
      have ha2 : a = (uintL m).length := by omega
      have haI : (a : Int) ≤ 11 := by omega
      have hsum : (costN (m : Int) : Int) = (m : Int) + (a : Int) + 8 := by rw [Hhcost.out, ha2]; omega
      clear h128 hu1 hab ha2
      have Hhsum := Lib.hid hsum; clear hsum
      have q4 := strq (c := c) (Hhr.out.next HB4.out)
      go_wp2_with fail
      clear q4
      refine (rframe_any g l' _ hg (by rw [Hhxl.out]; omega)).mono ?_; rintro e w5 ⟨rfl, b5⟩
      rw [HF.out]
      have B5 := bthen HB4.out b5
      go_wp2_with fail
      refine (image_any A x c g l' _ (Hhr.out.next B5) (by omega) hg).mono ?_; rintro e w6 ⟨A6, n6, c6, rfl, o6, b6⟩
      rw [HF.out] at o6
      have q6 := strq (c := c6) (Rd.of_own o6)
      have B6 := bthen B5 b6
      have r6 := (Hr4.out.next b5).next b6
      clear b5 B5 b6
      have Ho6 := Lib.hid o6; clear o6
      have HB6 := Lib.hid B6; clear B6
      have Hr6 := Lib.hid r6; clear r6
      go_wp2_with fail
      clear q6
      refine (cost_any x _).mono ?_; rintro e w7 ⟨rfl, rfl⟩
      rw [Hhc1.out]
      go_wp2_with fail
      refine (cost_any (m : Int) _).mono ?_; rintro e w7 ⟨rfl, rfl⟩
      rw [Hhsum.out]
      have q7 := strq (c := c3) Hr6.out
      go_wp2_with fail
      clear q7
      refine (L.lives_any _).mono ?_; rintro e w8 ⟨rfl, b8⟩
      go_wp2_with fail
      go_ret
      exact ⟨rfl, bthen HB6.out b8⟩

theorem walk (x : Int) (A : Option Addr) (n c : Nat) (l : List UInt8) (N : Int) (w : World) (hx : (Lit.int .u32 x).wf = true) (h1 : IsB w A n c l) (hn : (Lit.int .i64 N).wf = true) :
    Calls Try.prog 8 #[.int .u32 x, .slice A n c, .int .i64 N] w fun e w' => e = .returned (.bool true) ∧ Below w.heap.size w w' := by
  obtain ⟨x1, x2⟩ := bounds_u32 hx
  obtain ⟨n1, n2⟩ := bounds_i64 hn
  obtain ⟨g, rfl⟩ := Int.eq_ofNat_of_zero_le x1
  rcases (show N < 0 ∨ 1048576 < N ∨ (0 ≤ N ∧ N ≤ 1048576) by omega) with h | h | h
  · exact walk1 g A n c l N w (by omega) h1 n1 n2 h
  · exact walk2 g A n c l N w (by omega) h1 n1 n2 h
  · exact walk3 g A n c l N w (by omega) h1 n1 n2 h
end Go.Proofs.Ytkcehoejcklmfaa.walFrames
