/- bytes.Equal, disk.Clone, disk.Same. -/
import Derived.Test.YtkcehoejcklmfaaDiskLoop
namespace Go.Proofs.Ytkcehoejcklmfaa.K
open Go.RowKit D O

theorem beq_any (A : Option Addr) (n c : Nat) (A' : Option Addr) (n' c' : Nat) (la lb : List UInt8) (w : World) {B B' : Nat} (ha : Rd w B 1 A n (bv la)) (hb : Rd w B' 1 A' n' (bv lb)) :
    Calls Try.prog 64 #[.slice A n c, .slice A' n' c'] w fun e w' => e = .returned (.bool (decide (la = lb))) ∧ w = w' := by
  have q1 := strq (c := c) ha
  have q2 := strq (c := c') hb
  have Hha := Lib.hid ha; clear ha
  have Hhb := Lib.hid hb; clear hb
  go_enter Try.func64, Try.ntmps64
  go_wp2_with fail
  go_ret
  refine ⟨?_, rfl⟩
  refine ret_bool ?_
  rw [Bool.eq_iff_iff]
  simp

theorem lies_cells {w : World} {base g : Nat} {l n0 n1 s0 s1 : Sl} {s : St} (h : Lies w base g l n0 n1 s0 s1 s) :
    w.cell? ⟨g, 0, none⟩ = some (.slice l.a l.n l.c) ∧ w.cell? ⟨g, 1, none⟩ = some (.int .i64 (s.sure.length : Int)) ∧ w.cell? ⟨g, 2, none⟩ = some (.int .i64 (s.room : Int)) ∧ w.cell? ⟨g, 3, none⟩ = some (.slice n0.a n0.n n0.c) ∧ w.cell? ⟨g, 4, none⟩ = some (.slice n1.a n1.n n1.c) ∧
    w.cell? ⟨g, 5, none⟩ = some (.slice s0.a s0.n s0.c) ∧ w.cell? ⟨g, 6, none⟩ = some (.slice s1.a s1.n s1.c) :=
  ⟨h.cell 0, h.cell 1, h.cell 2, h.cell 3, h.cell 4, h.cell 5, h.cell 6⟩

set_option maxHeartbeats 1000000 in
theorem clone_lies {w : World} {base g : Nat} {l n0 n1 s0 s1 : Sl} {s : St} (h : Lies w base g l n0 n1 s0 s1 s) :
    Calls Try.prog 27 #[ptr g] w fun e w' => ∃ l', e = .returned (ptr w.heap.size) ∧ Lies w' w.heap.size w.heap.size l' n0 n1 s0 s1 s ∧ Below w.heap.size w w' := by
  obtain ⟨A, n, c⟩ := l
  obtain ⟨A0, n0, c0⟩ := n0
  obtain ⟨A1, n1, c1⟩ := n1
  obtain ⟨B0, m0, d0⟩ := s0
  obtain ⟨B1, m1, d1⟩ := s1
  have hlc := lies_cells h
  simp only at hlc
  obtain ⟨k0, k1, k2, k3, k4, k5, k6⟩ := hlc
  have hr := Rd.of_own h.log
  have hlo := h.lt
  have hlo2 := h.lo
  have hn : n ≤ 1048576 := by have h1 := h.ok.1; have h2 := h.ok.2; rw [h.len] at h2; simp only at h2; omega
  have Hh := Lib.hid h; clear h
  have Hhr := Lib.hid hr; clear hr
  go_enter Try.func27, Try.ntmps27
  go_wp2_with fail
  refine (own_any A n c s.log _ (Hhr.out.next ((Below.refl _ _).alloc (Nat.le_refl _) _)) (by omega)).mono ?_; rintro e w1 ⟨A2, n2, c2, rfl, own, b1⟩
  have hblk := blk_old b1 (blk_new w _)
  have e0 := cell_of_row w1 w.heap.size 0 _ _ _ hblk
  have f0 : w1.frozen? ⟨w.heap.size, 0, none⟩ = false := by simp [World.frozen?, hblk]
  simp at e0
  have B1' := Lib.hid b1; clear b1
  have Hown := Lib.hid own; clear own
  have Hhblk := Lib.hid hblk; clear hblk
  go_wp2_with fail
  go_ret
  have hown := Hown.out
  have hbl := Hhblk.out
  have b01 := bthen ((Below.refl w.heap.size w).alloc (Nat.le_refl _) _) B1'.out
  have hblk2 : blkOf A2 ≠ some w.heap.size := by
    intro e
    have := hown.lt w.heap.size (by rw [own_blk]; exact e)
    simp at this
    omega
  have hsep : ∀ {x : Sl} {y : List UInt8}, RdO w g (blkOf A) x y → RdO (w1.setCell ⟨w.heap.size, 0, none⟩ (.slice A2 n2 c2)) w.heap.size (blkOf A2) x y := by
    intro x y q
    have hl : y.length = x.n := by have := q.1.1; simp at this; omega
    refine ⟨?_, fun hp b hb => ?_⟩
    · exact Rd.setCell2 (q.1.next b01) (fun hp b hb => by
        obtain ⟨a, ea, hlt⟩ := Rd.blk_lt q.1 hp
        rw [ea] at hb
        simp [blkOf] at hb
        omega) _
    · obtain ⟨a, ea, hlt⟩ := Rd.blk_lt q.1 (by simp; omega)
      rw [ea] at hb
      simp [blkOf] at hb
      refine ⟨by omega, fun e => ?_⟩
      have := hown.lt b (by rw [own_blk]; exact e)
      simp at this
      omega
  refine ⟨⟨A2, n2, c2⟩, rfl, ⟨?_, Nat.le_refl _, ?_, hblk2, hsep Hh.out.rn0, hsep Hh.out.rn1, hsep Hh.out.rs0, hsep Hh.out.rs1, Hh.out.ok⟩, b01.setCell (by simp) _⟩
  · rw [row_setCell hbl]
    simp [cellsD]
  · exact own_more (ownsRow_setCell_other hown (by rw [own_blk]; exact hblk2) _) (by simp)
theorem clone_any {w : World} {base g : Nat} {r : Option Nat} {s : St} (h : DiskAt w base g r s) :
    Calls Try.prog 27 #[ptr g] w fun e w' => ∃ r', e = .returned (ptr w.heap.size) ∧ DiskAt w' w.heap.size w.heap.size r' s ∧ Below w.heap.size w w' := by
  obtain ⟨l, n0, n1, s0, s1, h, _⟩ := h
  exact (clone_lies h).mono fun e w' ⟨l', e1, e2, e3⟩ => ⟨_, e1, ⟨l', n0, n1, s0, s1, e2, rfl⟩, e3⟩
/-- A disk beside another one that turns. -/
theorem Lies.beside {w w' : World} {base g G : Nat} {r : Option Nat} {l n0 n1 s0 s1 : Sl} {s : St} (h : Lies w base g l n0 n1 s0 s1 s) (ho : Only G r w w') (h1 : g ≠ G) (h2 : r ≠ some g) (h3 : ∀ k, blkOf l.a = some k → k ≠ G ∧ r ≠ some k)
    (hrow : ∀ x : Sl, (x = n0 ∨ x = n1 ∨ x = s0 ∨ x = s1) → 0 < x.n → ∀ b, blkOf x.a = some b → b ≠ G ∧ r ≠ some b) : Lies w' base g l n0 n1 s0 s1 s := by
  have rd : ∀ (x : Sl) (y : List UInt8), (x = n0 ∨ x = n1 ∨ x = s0 ∨ x = s1) → RdO w g (blkOf l.a) x y → RdO w' g (blkOf l.a) x y := fun x y hx q =>
    ⟨Rd.only q.1 ho (fun hp => hrow x hx (by have := q.1.1; simp at this hp; omega)), q.2⟩
  refine ⟨(ho.block g h.lt h1 h2).trans h.blk, h.lo, ?_, h.off, rd _ _ (by simp) h.rn0, rd _ _ (by simp) h.rn1, rd _ _ (by simp) h.rs0, rd _ _ (by simp) h.rs1, h.ok⟩
  refine ⟨h.log.1, ?_⟩
  rcases h.log.2 with h0 | ⟨q, cap, cur, e1, e2, e3, e4⟩
  · exact .inl h0
  · have hb : blkOf l.a = some q := by rw [← own_blk l.a l.n l.c, e1]; rfl
    exact .inr ⟨q, cap, cur, e1, e2, (ho.block q (lt_of_block e3) (h3 q hb).1 (h3 q hb).2).trans e3, e4⟩
end Go.Proofs.Ytkcehoejcklmfaa.K
