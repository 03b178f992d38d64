/- DiskSlots' walk (printed by gen_diskslots.py). -/
import Derived.Test.YtkcehoejcklmfaaDiskLives
import Derived.Test.YtkcehoejcklmfaaOpen
import Derived.Test.YtkcehoejcklmfaaSched
import Derived.IntWalk
namespace Go.Proofs.Ytkcehoejcklmfaa.diskSlots
open Go.RowKit D O K

theorem plain (k keep : Int) (la lb : List UInt8) (hk : k = 0 ∨ k = 1) (ha : la.length ≤ 200) (hb : lb.length ≤ 200) (s3 s4 : St) (h3 : s3 = (((newS 100).write k la).1.sync.write k lb).1) (h4 : s4 = s3.crash keep) :
    slotL s3 k = lb ∧ slotL s4 k = la ∧ slotL s4 (1 - k) = [] ∧ (s3.n0.length ≤ 1000000 ∧ s3.n1.length ≤ 1000000) ∧ (s4.n0.length ≤ 1000000 ∧ s4.n1.length ≤ 1000000) := by
  subst h3 h4
  rcases hk with rfl | rfl
  · simp [slotL, St.write, St.sync, St.crash, newS]; omega
  · simp [slotL, St.write, St.sync, St.crash, newS]; omega

set_option maxRecDepth 100000 in
set_option maxHeartbeats 4000000 in
theorem walk (k : Int) (A : Option Addr) (n ca : Nat) (l1 : List UInt8) (B : Option Addr) (m cb : Nat) (l2 : List UInt8) (w : World) (hx0 : (Lit.int .i64 k).wf = true) (h1 : IsB w A n ca l1) (h2 : IsB w B m cb l2) :
    Calls Try.prog 4 #[.int .i64 k, .slice A n ca, .slice B m cb] w fun e w' => e = .returned (.bool true) ∧ Below w.heap.size w w' := by
  obtain ⟨ra, hnc, hcm⟩ := h1
  obtain ⟨rb, hmc, hcm2⟩ := h2
  unfold maxLen at hcm hcm2
  obtain ⟨hx1, hx2⟩ := bounds_i64 hx0
  clear hx0
  replace ra := ra.take_ 200
  replace rb := rb.take_ 200
  obtain ⟨x, hx⟩ : ∃ x : Nat, min n 200 = x := ⟨_, rfl⟩
  obtain ⟨y, hy⟩ : ∃ y : Nat, min m 200 = y := ⟨_, rfl⟩
  rw [hx] at ra
  rw [hy] at rb
  have ex : min (n : Int) 200 = (x : Int) := by omega
  have ey : min (m : Int) 200 = (y : Int) := by omega
  have bx : (x : Int) ≤ (ca : Int) := by omega
  have bY : (y : Int) ≤ (cb : Int) := by omega
  have hx2' : x ≤ 200 := by omega
  have hy2' : y ≤ 200 := by omega
  have hn9 : (n : Int) ≤ 9223372036854775807 := by omega
  generalize l1.take 200 = la at ra
  generalize l2.take 200 = lb at rb
  have la2 : la.length = x := by have := ra.1; simp at this; omega
  have lb2 : lb.length = y := by have := rb.1; simp at this; omega
  clear hx hy
  have LA := Lib.hid la2; clear la2
  have LB := Lib.hid lb2; clear lb2
  go_enter Try.func4, Try.ntmps4
  go_wp2_with fail
  go_region
  go_wp2_with fail
  refine (new_any 100 w.drew).mono ?_; rintro e w1 ⟨rfl, b1, d1⟩
  replace b1 : Below w.heap.size w w1 := ⟨b1.os, b1.tape, b1.output, b1.size, b1.block⟩
  replace d1 : DiskAt w1 w.heap.size w.heap.size none (newS 100) := d1
  have s1 := b1.size
  go_wp2_with fail
  refine (write_any d1 k A x ca la (ra.next b1) (by omega)).mono ?_; rintro e w2 ⟨rfl, t2⟩
  obtain ⟨r2, d2, b2, s2⟩ := t2.next d1 s1
  have b02 := b1.trans b2
  clear t2 d1 b1 b2 s1
  by_cases hk : k = 0 ∨ k = 1
  · obtain ⟨P3, P4, P5, P6, P7⟩ := plain k (n : Int) la lb hk (by rw [LA.out]; exact hx2') (by rw [LB.out]; exact hy2') _ _ rfl rfl
    have e2 : ((newS 100).write k la).2 = 0 := by rcases hk with rfl | rfl <;> rfl
    rw [e2]
    clear e2
    generalize ((newS 100).write k la).1 = t1 at *
    have E1 := Lib.hid P3; clear P3
    have E2 := Lib.hid P4; clear P4
    have E3 := Lib.hid P5; clear P5
    have L3 := Lib.hid P6; clear P6
    have L0 := Lib.hid P7; clear P7
    have hk1 : k = 0 ∨ k = 1 := hk
    have hk0 : 0 ≤ k := by omega
    have hk2 : k ≤ 1 := by omega
    clear hk hk1 hx1 hx2
    go_wp2_with fail
    refine (sync_any d2).mono ?_; rintro e w3 ⟨rfl, t3⟩
    obtain ⟨r3, d3, b3, s3⟩ := t3.next d2 s2
    have b03 := b02.trans b3
    clear t3 d2 b3 b02 s2
    go_wp2_with fail
    refine (write_any d3 k B y cb lb ((rb.below b03).more s3) (by omega)).mono ?_; rintro e w4 ⟨rfl, t4⟩
    obtain ⟨r4, d4, b4, s4⟩ := t4.next d3 s3
    have b04 := b03.trans b4
    clear t4 d3 b4 b03 s3
    go_wp2_with fail
    refine (slot_any k d4 L3.out.1 L3.out.2).mono ?_; rintro e w5 ⟨A5, n5, c5, rfl, r5, b5⟩
    have d5 := d4.below b5
    have b05 := b04.trans (b5.mono s4)
    have s5 := b05.size
    clear b04 d4 s4 b5
    rw [E1.out] at r5
    have q5 := strq (c := c5) r5
    go_wp2_with fail
    clear q5 r5
    refine (crash_any d5 (n : Int)).mono ?_; rintro e w7 ⟨rfl, t7⟩
    obtain ⟨r7, d7, b7, s7⟩ := t7.next d5 s5
    have b07 := b05.trans b7
    clear t7 d5 b7 b05 s5
    have HD := Lib.hid d7; clear d7
    have ra7 := (ra.below b07).more s7
    have rb7 := (rb.below b07).more s7
    go_wp2_with fail
    refine wp_region_sched [(0, true), (1, true), (2, true), (3, true), (4, true), (5, true), (6, true), (9, true), (10, true), (7, false), (8, true), (11, true), (12, true), (13, true), (14, true), (15, true), (16, true), (17, false), (18, true), (19, true), (20, true), (21, true), (22, false), (23, true), (24, true)] (by kernel_rfl) (by kernel_rfl) (fun _ _ d _ _ h => by cases d <;> exact h) ?_
    refine sread (v := ?va0) rfl rfl ?ha0 ?ra0
    case ha0 => (intro W hW; first | (go_simp; done) | (go_simp; with_reducible rfl))
    simp only [Act.put, List.setIfInBounds_toArray, List.set_cons_zero, List.set_cons_succ]
    refine sread (v := ?va1) rfl rfl ?ha1 ?ra1
    case ha1 => (intro W hW; first | (go_simp; done) | (go_simp; with_reducible rfl))
    simp only [Act.put, List.setIfInBounds_toArray, List.set_cons_zero, List.set_cons_succ]
    refine sread (v := .string ⟨lb.toArray⟩) rfl rfl ?ha2 ?ra2
    case ha2 => (intro W hW; have q := strq (c := cb) (rb7.drew.below hW.out); first | (go_simp; done) | (go_simp; with_reducible rfl))
    simp only [Act.put, List.setIfInBounds_toArray, List.set_cons_zero, List.set_cons_succ]
    refine sread (v := .bool true) rfl rfl ?ha3 ?ra3
    case ha3 => (intro W hW; first | (go_simp; done) | (go_simp; with_reducible rfl))
    simp only [Act.put, List.setIfInBounds_toArray, List.set_cons_zero, List.set_cons_succ]
    refine sread (v := ?va4) rfl rfl ?ha4 ?ra4
    case ha4 => (intro W hW; first | (go_simp; done) | (go_simp; with_reducible rfl))
    simp only [Act.put, List.setIfInBounds_toArray, List.set_cons_zero, List.set_cons_succ]
    refine sread (v := ?va5) rfl rfl ?ha5 ?ra5
    case ha5 => (intro W hW; first | (go_simp; done) | (go_simp; with_reducible rfl))
    simp only [Act.put, List.setIfInBounds_toArray, List.set_cons_zero, List.set_cons_succ]
    refine sread (v := ?va6) rfl rfl ?ha6 ?ra6
    case ha6 => (intro W hW; first | (go_simp; done) | (go_simp; with_reducible rfl))
    simp only [Act.put, List.setIfInBounds_toArray, List.set_cons_zero, List.set_cons_succ]
    refine sread (v := ?va9) rfl rfl ?ha9 ?ra9
    case ha9 => (intro W hW; first | (go_simp; done) | (go_simp; with_reducible rfl))
    simp only [Act.put, List.setIfInBounds_toArray, List.set_cons_zero, List.set_cons_succ]
    refine sread (v := .string ⟨la.toArray⟩) rfl rfl ?ha10 ?ra10
    case ha10 => (intro W hW; have q := strq (c := ca) (ra7.drew.below hW.out); first | (go_simp; done) | (go_simp; with_reducible rfl))
    simp only [Act.put, List.setIfInBounds_toArray, List.set_cons_zero, List.set_cons_succ]
    refine scall rfl rfl (fun K hK => ?_)
    go_simp
    refine (slot_any k (HD.out.below (Below.refl _ _).drew) L0.out.1 L0.out.2).mono ?_; rintro e w8 ⟨A8, n8, c8, rfl, r8, b8⟩
    go_wp2_with fail
    refine hK.out _ _ ?ga7 ?ka7
    case ga7 => exact b8
    clear hK K
    try simp only [Act.put, List.setIfInBounds_toArray, List.set_cons_zero, List.set_cons_succ]
    rw [E2.out] at r8
    refine sread (v := .string ⟨la.toArray⟩) rfl rfl ?ha8 ?ra8
    case ha8 => (intro W hW; have q := strq (c := c8) (r8.next hW.out); first | (go_simp; done) | (go_simp; with_reducible rfl))
    simp only [Act.put, List.setIfInBounds_toArray, List.set_cons_zero, List.set_cons_succ]
    refine sread (v := .bool true) rfl rfl ?ha11 ?ra11
    case ha11 => (intro W hW; first | (go_simp; done) | (go_simp; with_reducible rfl))
    simp only [Act.put, List.setIfInBounds_toArray, List.set_cons_zero, List.set_cons_succ]
    refine sread (v := ?va12) rfl rfl ?ha12 ?ra12
    case ha12 => (intro W hW; first | (go_simp; done) | (go_simp; with_reducible rfl))
    simp only [Act.put, List.setIfInBounds_toArray, List.set_cons_zero, List.set_cons_succ]
    refine sread (v := ?va13) rfl rfl ?ha13 ?ra13
    case ha13 => (intro W hW; first | (go_simp; done) | (go_simp; with_reducible rfl))
    simp only [Act.put, List.setIfInBounds_toArray, List.set_cons_zero, List.set_cons_succ]
    refine sread (v := ?va14) rfl rfl ?ha14 ?ra14
    case ha14 => (intro W hW; first | (go_simp; done) | (go_simp; with_reducible rfl))
    simp only [Act.put, List.setIfInBounds_toArray, List.set_cons_zero, List.set_cons_succ]
    refine sread (v := ?va15) rfl rfl ?ha15 ?ra15
    case ha15 => (intro W hW; first | (go_simp; done) | (go_simp; with_reducible rfl))
    simp only [Act.put, List.setIfInBounds_toArray, List.set_cons_zero, List.set_cons_succ]
    refine sread (v := .int .i64 (1 - k)) rfl rfl ?ha16 ?ra16
    case ha16 => (intro W hW; have hwr : IntKind.i64.wrap (1 - k) = 1 - k := IntWalk.i64_in _ (by omega); first | (go_simp; done) | (go_simp; with_reducible rfl))
    simp only [Act.put, List.setIfInBounds_toArray, List.set_cons_zero, List.set_cons_succ]
    refine scall rfl rfl (fun K hK => ?_)
    go_simp
    refine (slot_any (1 - k) ((HD.out.below (Below.refl _ _).drew).below b8) L0.out.1 L0.out.2).mono ?_; rintro e w9 ⟨A9, n9, c9, rfl, r9, b9⟩
    go_wp2_with fail
    refine hK.out _ _ ?ga17 ?ka17
    case ga17 => exact b9
    clear hK K
    try simp only [Act.put, List.setIfInBounds_toArray, List.set_cons_zero, List.set_cons_succ]
    rw [E3.out] at r9
    obtain rfl : 0 = n9 := by have := r9.1; simpa using this
    refine sread (v := ?va18) rfl rfl ?ha18 ?ra18
    case ha18 => (intro W hW; first | (go_simp; done) | (go_simp; with_reducible rfl))
    simp only [Act.put, List.setIfInBounds_toArray, List.set_cons_zero, List.set_cons_succ]
    refine sread (v := ?va19) rfl rfl ?ha19 ?ra19
    case ha19 => (intro W hW; first | (go_simp; done) | (go_simp; with_reducible rfl))
    simp only [Act.put, List.setIfInBounds_toArray, List.set_cons_zero, List.set_cons_succ]
    refine sread (v := ?va20) rfl rfl ?ha20 ?ra20
    case ha20 => (intro W hW; first | (go_simp; done) | (go_simp; with_reducible rfl))
    simp only [Act.put, List.setIfInBounds_toArray, List.set_cons_zero, List.set_cons_succ]
    refine sread (v := ?va21) rfl rfl ?ha21 ?ra21
    case ha21 => (intro W hW; first | (go_simp; done) | (go_simp; with_reducible rfl))
    simp only [Act.put, List.setIfInBounds_toArray, List.set_cons_zero, List.set_cons_succ]
    refine scall rfl rfl (fun K hK => ?_)
    go_simp
    refine (lives_any _).mono ?_; rintro e w10 ⟨rfl, b10⟩
    go_wp2_with fail
    refine hK.out _ _ ?ga22 ?ka22
    case ga22 => exact b10
    clear hK K
    try simp only [Act.put, List.setIfInBounds_toArray, List.set_cons_zero, List.set_cons_succ]
    refine sread (v := ?va23) rfl rfl ?ha23 ?ra23
    case ha23 => (intro W hW; first | (go_simp; done) | (go_simp; with_reducible rfl))
    simp only [Act.put, List.setIfInBounds_toArray, List.set_cons_zero, List.set_cons_succ]
    refine sread (v := ?va24) rfl rfl ?ha24 ?ra24
    case ha24 => (intro W hW; first | (go_simp; done) | (go_simp; with_reducible rfl))
    simp only [Act.put, List.setIfInBounds_toArray, List.set_cons_zero, List.set_cons_succ]
    refine sdone ?_
    go_wp2_with fail
    go_ret
    exact ⟨rfl, ((b07.drew.trans (b8.mono s7)).trans (b9.mono (Nat.le_trans s7 b8.size))).trans (b10.mono (Nat.le_trans (Nat.le_trans s7 b8.size) b9.size))⟩
  · have e2 : ((newS 100).write k la).2 = 1 := by simp at hk; simp [St.write, hk]
    rw [e2]
    have hk0 : (k == 0) = false := by simp at hk ⊢; omega
    have hk1 : (k == 1) = false := by simp at hk ⊢; omega
    go_wp2_with fail
    refine (lives_any _).mono ?_; rintro e w3 ⟨rfl, b3⟩
    go_wp2_with fail
    go_ret
    have hv : (k != 0 && k != 1) = true := by simp at hk ⊢; omega
    refine ⟨?_, b02.trans (b3.mono s2)⟩
    show Ending.returned (.bool (k != 0 && k != 1)) = _
    rw [hv]
end Go.Proofs.Ytkcehoejcklmfaa.diskSlots
