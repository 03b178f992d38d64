/- The contract of disk.Write (printed by gen_diskwrite.py). -/
import Derived.Test.YtkcehoejcklmfaaDiskFns
import Derived.Test.YtkcehoejcklmfaaSchedT
import Derived.IntWalk
namespace Go.Proofs.Ytkcehoejcklmfaa.K
open Go.RowKit D O

theorem RdO.fresh {w w1 : World} {g : Nat} {r : Option Nat} {A : Option Addr} {n c : Nat} {l : List UInt8} (h : w1.ownsRow w.heap.size 5 1 (.slice A n c) n (bv l)) (hg : g < w.heap.size) (hr : ∀ k, r = some k → k < w.heap.size) : RdO w1 g r ⟨A, n, c⟩ l := by
  refine ⟨Rd.of_own h, fun _ b hb => ?_⟩
  have := (h.lt b (by rw [own_blk]; exact hb)).1
  exact ⟨by omega, fun e => by have := hr b e; omega⟩

theorem Lies.write {w w1 : World} {base g : Nat} {l n0 n1 s0 s1 : Sl} {s : St} {A : Option Addr} {n c : Nat} {b : List UInt8} (k : Int) (h : Lies w base g l n0 n1 s0 s1 s) (h01 : Below w.heap.size w w1)
    (hown : w1.ownsRow w.heap.size 5 1 (.slice A n c) n (bv b)) (hk : k = 0 ∨ k = 1) : Turned base g (blkOf l.a) (s.write k b).1 w (w1.setCell ⟨g, 3 + k.toNat, none⟩ (.slice A n c)) := by
  have h1 := h.below h01
  have ho2 : Only g none w1 (w1.setCell ⟨g, 3 + k.toNat, none⟩ (.slice A n c)) := (Only.refl _ _ _).setCell _ _
  have ho : Only g (blkOf l.a) w (w1.setCell ⟨g, 3 + k.toNat, none⟩ (.slice A n c)) :=
    ⟨ho2.os.trans h01.os, ho2.tape.trans h01.tape, ho2.output.trans h01.output, Nat.le_trans h01.size ho2.size, fun j hj hg _ => (ho2.block j (Nat.lt_of_lt_of_le hj h01.size) hg (by simp)).trans (h01.block j hj)⟩
  have hf : RdO w1 g (blkOf l.a) ⟨A, n, c⟩ b := RdO.fresh hown h.lt (fun k hk => (h.row k hk).2)
  have hw := write_ok h.ok k b
  rcases hk with rfl | rfl
  · refine ⟨ho, _, ⟨l, ⟨A, n, c⟩, n1, s0, s1, ⟨?_, h.lo, h1.own ho2, h.off, hf.only ho2.weak, h1.rn1.only ho2.weak, h1.rs0.only ho2.weak, h1.rs1.only ho2.weak, hw⟩, rfl⟩, .inl rfl⟩
    rw [row_setCell h1.blk]
    simp [cellsD, St.write]
  · refine ⟨ho, _, ⟨l, n0, ⟨A, n, c⟩, s0, s1, ⟨?_, h.lo, h1.own ho2, h.off, h1.rn0.only ho2.weak, hf.only ho2.weak, h1.rs0.only ho2.weak, h1.rs1.only ho2.weak, hw⟩, rfl⟩, .inl rfl⟩
    rw [row_setCell h1.blk]
    simp [cellsD, St.write]

set_option maxRecDepth 100000 in
set_option maxHeartbeats 2000000 in
theorem write_any {w : World} {base g : Nat} {r : Option Nat} {s : St} (h : DiskAt w base g r s) (k : Int) (A' : Option Addr) (m c' : Nat) (b : List UInt8) (hb : Rd w w.heap.size 1 A' m (bv b)) (hm : m ≤ 140737488355328) :
    Calls Try.prog 24 #[ptr g, .int .i64 k, .slice A' m c'] w fun e w' => e = .returned (.int .i64 (s.write k b).2) ∧ Turned base g r (s.write k b).1 w w' := by
  obtain ⟨l, n0, n1, s0, s1, h, rfl⟩ := h
  have d3 := h.cell 3
  have d4 := h.cell 4
  have f3 := h.free 3
  have f4 := h.free 4
  simp [cellsD] at d3 d4
  have H := Lib.hid h; clear h
  go_enter Try.func24, Try.ntmps24
  go_wp2_with fail
  refine (is_any k _).mono ?_; rintro e w' ⟨rfl, rfl⟩
  by_cases hk : k = 0 ∨ k = 1
  · rcases hk with rfl | rfl
    · go_wp2_with fail
      refine wp_region_schedT [(0, true), (1, true), (2, true), (4, true), (5, true), (3, false), (6, true), (7, false)] (by kernel_rfl) (by kernel_rfl) (fun _ _ d _ _ h => by cases d <;> exact h) ?_
      refine tread (v := ?va0) rfl rfl ?ha0 ?ra0
      case ha0 => (intro W hW; first | (go_simp; done) | (go_simp; with_reducible rfl))
      simp only [Act.put, List.setIfInBounds_toArray, List.set_cons_zero, List.set_cons_succ]
      refine tread (v := ?va1) rfl rfl ?ha1 ?ra1
      case ha1 => (intro W hW; first | (go_simp; done) | (go_simp; with_reducible rfl))
      simp only [Act.put, List.setIfInBounds_toArray, List.set_cons_zero, List.set_cons_succ]
      refine tread (v := ?va2) rfl rfl ?ha2 ?ra2
      case ha2 => (intro W hW; first | (go_simp; done) | (go_simp; with_reducible rfl))
      simp only [Act.put, List.setIfInBounds_toArray, List.set_cons_zero, List.set_cons_succ]
      refine tread (v := ?va4) rfl rfl ?ha4 ?ra4
      case ha4 => (intro W hW; first | (go_simp; done) | (go_simp; with_reducible rfl))
      simp only [Act.put, List.setIfInBounds_toArray, List.set_cons_zero, List.set_cons_succ]
      refine tread (v := ?va5) rfl rfl ?ha5 ?ra5
      case ha5 => (intro W hW; first | (go_simp; done) | (go_simp; with_reducible rfl))
      simp only [Act.put, List.setIfInBounds_toArray, List.set_cons_zero, List.set_cons_succ]
      refine tcall rfl rfl (fun K hK => ?_)
      go_simp
      refine (own_any A' m c' b _ hb.drew (by omega)).mono ?_; rintro e w1 ⟨A2, n2, c2, rfl, o2, b2⟩
      go_wp2_with fail
      refine hK.out _ _ ?ga3 ?ka3
      case ga3 => exact trivial
      clear hK K
      try simp only [Act.put, List.setIfInBounds_toArray, List.set_cons_zero, List.set_cons_succ]
      replace b2 : Below w.heap.size w w1 := ⟨b2.os, b2.tape, b2.output, b2.size, b2.block⟩
      have d' := (b2.cell (p := ⟨g, 3, none⟩) H.out.lt).trans d3
      have f' := (b2.frozen (p := ⟨g, 3, none⟩) H.out.lt).trans f3
      refine tread (v := ?va6) rfl rfl ?ha6 ?ra6
      case ha6 => (intro W hW; first | (go_simp; done) | (go_simp; with_reducible rfl))
      simp only [Act.put, List.setIfInBounds_toArray, List.set_cons_zero, List.set_cons_succ]
      refine tcall rfl rfl (fun K hK => ?_)
      go_simp
      skip
      go_wp2_with fail
      refine hK.out _ _ ?ga7 ?ka7
      case ga7 => exact trivial
      clear hK K
      try simp only [Act.put, List.setIfInBounds_toArray, List.set_cons_zero, List.set_cons_succ]
      clear d' f'
      refine tdone ?_
      go_wp2_with fail
      go_ret
      exact ⟨rfl, H.out.write 0 b2 o2 (.inl rfl)⟩
    · go_wp2_with fail
      refine wp_region_schedT [(0, true), (1, true), (2, true), (4, true), (5, true), (3, false), (6, true), (7, false)] (by kernel_rfl) (by kernel_rfl) (fun _ _ d _ _ h => by cases d <;> exact h) ?_
      refine tread (v := ?vb0) rfl rfl ?hb0 ?rb0
      case hb0 => (intro W hW; first | (go_simp; done) | (go_simp; with_reducible rfl))
      simp only [Act.put, List.setIfInBounds_toArray, List.set_cons_zero, List.set_cons_succ]
      refine tread (v := ?vb1) rfl rfl ?hb1 ?rb1
      case hb1 => (intro W hW; first | (go_simp; done) | (go_simp; with_reducible rfl))
      simp only [Act.put, List.setIfInBounds_toArray, List.set_cons_zero, List.set_cons_succ]
      refine tread (v := ?vb2) rfl rfl ?hb2 ?rb2
      case hb2 => (intro W hW; first | (go_simp; done) | (go_simp; with_reducible rfl))
      simp only [Act.put, List.setIfInBounds_toArray, List.set_cons_zero, List.set_cons_succ]
      refine tread (v := ?vb4) rfl rfl ?hb4 ?rb4
      case hb4 => (intro W hW; first | (go_simp; done) | (go_simp; with_reducible rfl))
      simp only [Act.put, List.setIfInBounds_toArray, List.set_cons_zero, List.set_cons_succ]
      refine tread (v := ?vb5) rfl rfl ?hb5 ?rb5
      case hb5 => (intro W hW; first | (go_simp; done) | (go_simp; with_reducible rfl))
      simp only [Act.put, List.setIfInBounds_toArray, List.set_cons_zero, List.set_cons_succ]
      refine tcall rfl rfl (fun K hK => ?_)
      go_simp
      refine (own_any A' m c' b _ hb.drew (by omega)).mono ?_; rintro e w1 ⟨A2, n2, c2, rfl, o2, b2⟩
      go_wp2_with fail
      refine hK.out _ _ ?gb3 ?kb3
      case gb3 => exact trivial
      clear hK K
      try simp only [Act.put, List.setIfInBounds_toArray, List.set_cons_zero, List.set_cons_succ]
      replace b2 : Below w.heap.size w w1 := ⟨b2.os, b2.tape, b2.output, b2.size, b2.block⟩
      have d' := (b2.cell (p := ⟨g, 4, none⟩) H.out.lt).trans d4
      have f' := (b2.frozen (p := ⟨g, 4, none⟩) H.out.lt).trans f4
      refine tread (v := ?vb6) rfl rfl ?hb6 ?rb6
      case hb6 => (intro W hW; first | (go_simp; done) | (go_simp; with_reducible rfl))
      simp only [Act.put, List.setIfInBounds_toArray, List.set_cons_zero, List.set_cons_succ]
      refine tcall rfl rfl (fun K hK => ?_)
      go_simp
      skip
      go_wp2_with fail
      refine hK.out _ _ ?gb7 ?kb7
      case gb7 => exact trivial
      clear hK K
      try simp only [Act.put, List.setIfInBounds_toArray, List.set_cons_zero, List.set_cons_succ]
      clear d' f'
      refine tdone ?_
      go_wp2_with fail
      go_ret
      exact ⟨rfl, H.out.write 1 b2 o2 (.inr rfl)⟩
  · have hk' : decide (k = 0 ∨ k = 1) = false := by simp at hk ⊢; omega
    rw [hk']
    go_wp2_with fail
    go_ret
    have e0 : s.write k b = (s, 1) := by simp at hk; simp [St.write, hk]
    rw [e0]
    exact ⟨rfl, Only.refl _ _ _, _, ⟨_, _, _, _, _, H.out, rfl⟩, .inl rfl⟩
end Go.Proofs.Ytkcehoejcklmfaa.K
