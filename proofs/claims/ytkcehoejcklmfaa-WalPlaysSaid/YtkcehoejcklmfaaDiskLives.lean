/- billhooklaw03's lives. -/
import Derived.Test.YtkcehoejcklmfaaDiskFns2
import Derived.Test.YtkcehoejcklmfaaDiskWrite
import Derived.Lib.SlBytesConst
namespace Go.Proofs.Ytkcehoejcklmfaa.K
open Go.RowKit D O

theorem Turned.next {w w' : World} {base g : Nat} {r : Option Nat} {s s' : St} (h : Turned base g r s' w w') (hd : DiskAt w base g r s) (hb : base ≤ w.heap.size) : ∃ r', DiskAt w' base g r' s' ∧ Below base w w' ∧ base ≤ w'.heap.size := by
  obtain ⟨r', h1, _⟩ := h.2
  have := h.below hd hb
  exact ⟨r', h1, this, Nat.le_trans hb this.size⟩
theorem below_alloc (w : World) (o : Obj) : Below w.heap.size w (w.alloc o) := (Below.refl _ _).alloc (Nat.le_refl _) _
theorem strq {W : World} {B n c : Nat} {A : Option Addr} {l : List UInt8} (h : Rd W B 1 A n (bv l)) : (convert 31 9 (.slice A n c)).run Try.prog W = .ok (.string ⟨l.toArray⟩) W :=
  run_str W Try.underlying31 Try.underlying5 Try.underlying9 h

set_option maxRecDepth 100000 in
set_option maxHeartbeats 1000000 in
theorem lives_any (w : World) : Calls Try.prog 23 #[] w fun e w' => e = .returned (.bool true) ∧ Below w.heap.size w w' := by
  have kc := fun (w : World) (C : Array Value) (n c : Nat) => Lib.run_convert_bytes_const (P := Try.prog) w 31 5 C n c Try.underlying31 Try.underlying5
  go_enter Try.func23, Try.ntmps23
  go_wp2_with fail
  refine (new_any 9 w).mono ?_; rintro e w1 ⟨rfl, b1, d1⟩
  have s1 := b1.size
  go_wp2_with fail
  have da := d1.below (below_alloc w1 (.cells #[.int .u8 97, .int .u8 98] 5 (2, 3)))
  refine (append_any da _ 2 2 [97, 98] ((Rd.lit w1 [.int .u8 97, .int .u8 98] [97, 98] rfl _ _ 2 rfl).more (by simp)) (by simp; omega) (by omega)).mono ?_; rintro e w2 ⟨rfl, t2⟩
  obtain ⟨r2, d2, b2, s2⟩ := t2.next da (by simp; omega)
  have b2' := (b1.alloc s1 _).trans b2
  clear d1 da t2 b1 b2 s1
  go_wp2_with fail
  refine (sync_any d2).mono ?_; rintro e w3 ⟨rfl, t3⟩
  obtain ⟨r3, d3, b3, s3⟩ := t3.next d2 s2
  have b3' := b2'.trans b3
  clear d2 t3 b3 b2' s2
  go_wp2_with fail
  have da := d3.below (below_alloc w3 (.cells #[.int .u8 99, .int .u8 100] 5 (2, 3)))
  refine (append_any da _ 2 2 [99, 100] ((Rd.lit w3 [.int .u8 99, .int .u8 100] [99, 100] rfl _ _ 2 rfl).more (by simp)) (by simp; omega) (by omega)).mono ?_; rintro e w4 ⟨rfl, t4⟩
  obtain ⟨r4, d4, b4, s4⟩ := t4.next da (by simp; omega)
  have b4' := (b3'.alloc s3 _).trans b4
  clear d3 da t4 b3' b4 s3
  go_wp2_with fail
  refine (crash_any d4 1).mono ?_; rintro e w5 ⟨rfl, t5⟩
  obtain ⟨r5, d5, b5, s5⟩ := t5.next d4 s4
  have b5' := b4'.trans b5
  clear d4 t5 b5 b4' s4
  go_wp2_with fail
  refine (log_any d5).mono ?_; rintro e w6 ⟨A1, n1, c1, rfl, o6, b6⟩
  have d6 := d5.below b6
  have q := strq (c := c1) (Rd.of_own o6)
  go_wp2_with fail
  refine (sure_any d6).mono ?_; rintro e w7 ⟨rfl, b7⟩
  go_wp2_with fail
  go_ret
  exact ⟨rfl, (b5'.trans (b6.mono s5)).trans (b7.mono (by have := b6.size; omega))⟩
end Go.Proofs.Ytkcehoejcklmfaa.K
