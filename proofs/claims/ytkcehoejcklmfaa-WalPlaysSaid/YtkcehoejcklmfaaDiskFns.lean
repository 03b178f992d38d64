/- The contracts of disk.own, is, New, Room, Sure, Log, Slot, Sync, Clear. -/
import Derived.Test.YtkcehoejcklmfaaDiskMem
import Derived.BigQuiet
namespace Go.Proofs.Ytkcehoejcklmfaa.K
open Go.RowKit D O

abbrev ptr (g : Nat) : Value := .pointer (some ⟨g, 0, none⟩)

set_option maxHeartbeats 400000 in
theorem own_any (A : Option Addr) (n c : Nat) (l : List UInt8) (w : World) (h : Rd w w.heap.size 1 A n (bv l)) (hn : n ≤ 140737488355328) :
    Calls Try.prog 62 #[.slice A n c] w (RetB l w) := by
  have hl : l.length = n := by have := h.1; simp at this; omega
  subst hl
  have hmk := run_make_bytes l.length l.length (by omega) (by omega)
  go_enter Try.func62, Try.ntmps62
  go_wp2_with (refine wpList_copy_rd rfl (.tmp 7) (.tmp 8) byteElem rfl w.heap.size _ rfl (own_made w _ (Nat.le_refl _) (by unfold maxLen; omega) (by simp [size_madeCells]) (by omega)) rfl (bv l) (h.alloc (Nat.le_refl _) _) (bv_one l) (Nat.le_refl _) ?_; intro w1 hown hg)
  go_ret
  refine ⟨_, _, _, rfl, ?_, below_app ((Below.refl _ _).alloc (Nat.le_refl _) _) (own_made w _ (Nat.le_refl _) (by unfold maxLen; omega) (by simp [size_madeCells]) (by omega)) hg (by simp)⟩
  simpa using hown

theorem is_any (k : Int) (w : World) : Calls Try.prog 63 #[.int .i64 k] w fun e w' => e = .returned (.bool (decide (k = 0 ∨ k = 1))) ∧ w = w' := by
  go_enter Try.func63, Try.ntmps63
  by_cases h0 : 0 ≤ k
  · by_cases h1 : k < 2
    · go_wp2_with fail
      go_ret
      have : k = 0 ∨ k = 1 := by omega
      simp [this]
    · go_wp2_with fail
      go_ret
      simp
      omega
  · go_wp2_with fail
    go_ret
    simp
    omega

theorem room_any' {w : World} {base g : Nat} {r : Option Nat} {s : St} (h : DiskAt w base g r s) :
    Calls Try.prog 31 #[ptr g] w fun e w' => e = .returned (.int .i64 ((s.room : Int) - s.log.length)) ∧ Below w.heap.size w w' := by
  obtain ⟨⟨A, n, c⟩, n0, n1, s0, s1, h, rfl⟩ := h
  have c0 := h.cell 0
  have c2 := h.cell 2
  have hl := h.len
  have ho := h.ok.1
  have ho2 := h.ok.2
  simp [cellsD] at c0 c2 hl
  rw [← hl] at c0
  clear h hl
  go_enter Try.func31, Try.ntmps31
  go_wp2_with fail
  go_quiet (fail)
  go_wp2_with fail
  go_ret
  exact ⟨rfl, ⟨rfl, rfl, rfl, Nat.le_refl _, fun _ _ => rfl⟩⟩

theorem sure_any {w : World} {base g : Nat} {r : Option Nat} {s : St} (h : DiskAt w base g r s) :
    Calls Try.prog 22 #[ptr g] w fun e w' => e = .returned (.int .i64 (s.sure.length : Int)) ∧ Below w.heap.size w w' := by
  obtain ⟨⟨A, n, c⟩, n0, n1, s0, s1, h, rfl⟩ := h
  have c1 := h.cell 1
  simp [cellsD] at c1
  clear h
  go_enter Try.func22, Try.ntmps22
  go_wp2_with fail
  go_ret
  exact ⟨rfl, ⟨rfl, rfl, rfl, Nat.le_refl _, fun _ _ => rfl⟩⟩

theorem log_any {w : World} {base g : Nat} {r : Option Nat} {s : St} (h : DiskAt w base g r s) :
    Calls Try.prog 20 #[ptr g] w (RetB s.log w) := by
  obtain ⟨⟨A, n, c⟩, n0, n1, s0, s1, h, rfl⟩ := h
  have c0 := h.cell 0
  have hl := h.len
  have ho := h.ok.1
  have ho2 := h.ok.2
  have hr := Rd.of_own h.log
  simp [cellsD] at c0 hl hr
  clear h
  go_enter Try.func20, Try.ntmps20
  go_wp2_with fail
  refine (own_any A n c s.log _ hr (by omega)).mono ?_; rintro e w1 ⟨A1, n1', c1', rfl, hown1, hb1⟩
  go_wp2_with fail
  go_ret
  exact ⟨_, _, _, rfl, hown1, hb1⟩

/-- What lies in a slot. -/
def slotL (s : St) (k : Int) : List UInt8 := if k = 0 then s.n0 else if k = 1 then s.n1 else []

set_option maxHeartbeats 800000 in
theorem slot_any {w : World} {base g : Nat} {r : Option Nat} {s : St} (k : Int) (h : DiskAt w base g r s) (h0 : s.n0.length ≤ 1000000) (h1 : s.n1.length ≤ 1000000) :
    Calls Try.prog 25 #[ptr g, .int .i64 k] w fun e w' => ∃ A n c, e = .returned (.slice A n c) ∧ Rd w' w'.heap.size 1 A n (bv (slotL s k)) ∧ Below w.heap.size w w' := by
  obtain ⟨⟨A, n, c⟩, ⟨A0, n0, c0⟩, ⟨A1, n1, c1⟩, s0, s1, h, rfl⟩ := h
  have d3 := h.cell 3
  have d4 := h.cell 4
  have r0 := h.rn0.1
  have r1 := h.rn1.1
  simp [cellsD] at d3 d4 r0 r1
  have l0 : s.n0.length = n0 := by have := r0.1; simp at this; omega
  have l1 : s.n1.length = n1 := by have := r1.1; simp at this; omega
  clear h
  go_enter Try.func25, Try.ntmps25
  go_wp2_with fail
  refine (is_any k _).mono ?_; rintro e w' ⟨rfl, rfl⟩
  by_cases hk : k = 0 ∨ k = 1
  · rcases hk with rfl | rfl
    · go_wp2_with fail
      refine (own_any A0 n0 c0 s.n0 _ r0 (by omega)).mono ?_; rintro e w1 ⟨A1, n1', c1', rfl, hown1, hb1⟩
      go_wp2_with fail
      go_ret
      exact ⟨_, _, _, rfl, Rd.of_own hown1, hb1⟩
    · go_wp2_with fail
      refine (own_any A1 n1 c1 s.n1 _ r1 (by omega)).mono ?_; rintro e w1 ⟨A1, n1', c1', rfl, hown1, hb1⟩
      go_wp2_with fail
      go_ret
      exact ⟨_, _, _, rfl, Rd.of_own hown1, hb1⟩
  · have hk' : decide (k = 0 ∨ k = 1) = false := by simp at hk ⊢; omega
    rw [hk']
    go_wp2_with fail
    go_ret
    refine ⟨_, _, _, rfl, ?_, ⟨rfl, rfl, rfl, Nat.le_refl _, fun _ _ => rfl⟩⟩
    have : slotL s k = [] := by simp at hk; simp [slotL, hk]
    rw [this]
    exact Rd.nil_

set_option maxHeartbeats 800000 in
theorem sync_any {w : World} {base g : Nat} {r : Option Nat} {s : St} (h : DiskAt w base g r s) :
    Calls Try.prog 19 #[ptr g] w fun e w' => e = .returned (.tuple #[]) ∧ Turned base g r s.sync w w' := by
  obtain ⟨⟨A, n, c⟩, ⟨A0, n0, c0⟩, ⟨A1, n1, c1⟩, s0, s1, h, rfl⟩ := h
  have d0 := h.cell 0
  have d3 := h.cell 3
  have d4 := h.cell 4
  have f1 := h.free 1
  have f5 := h.free 5
  have f6 := h.free 6
  have d1 := h.cell 1
  have d5 := h.cell 5
  have d6 := h.cell 6
  have hl := h.len
  simp [cellsD] at d0 d1 d3 d4 d5 d6
  have H := Lib.hid h; clear h
  have HL := Lib.hid hl; clear hl
  go_enter Try.func19, Try.ntmps19
  go_wp2_with fail
  go_end0
  have h := H.out
  have ho : Only g none w (((w.setCell ⟨g, 1, none⟩ (.int .i64 n)).setCell ⟨g, 5, none⟩ (.slice A0 n0 c0)).setCell ⟨g, 6, none⟩ (.slice A1 n1 c1)) := (((Only.refl _ _ _).setCell _ _).setCell _ _).setCell _ _
  refine ⟨rfl, ho.weak, _, ⟨⟨A, n, c⟩, ⟨A0, n0, c0⟩, ⟨A1, n1, c1⟩, ⟨A0, n0, c0⟩, ⟨A1, n1, c1⟩, ⟨?_, h.lo, ?_, h.off, h.rn0.only ho.weak, h.rn1.only ho.weak, h.rn0.only ho.weak, h.rn1.only ho.weak, sync_ok h.ok⟩, rfl⟩, .inl rfl⟩
  · rw [row_setCell (row_setCell (row_setCell h.blk))]
    have := HL.out
    simp [cellsD, St.sync, this]
  · have := h.own ho
    simpa [St.sync, St.log] using this

set_option maxHeartbeats 800000 in
theorem clear_any {w : World} {base g : Nat} {r : Option Nat} {s : St} (h : DiskAt w base g r s) :
    Calls Try.prog 29 #[ptr g] w fun e w' => e = .returned (.tuple #[]) ∧ Turned base g r s.clear w w' := by
  obtain ⟨⟨A, n, c⟩, ⟨A0, n0, c0⟩, ⟨A1, n1, c1⟩, s0, s1, h, rfl⟩ := h
  have f0 := h.free 0
  have f1 := h.free 1
  have d0 := h.cell 0
  have d1 := h.cell 1
  simp [cellsD] at d0 d1
  have H := Lib.hid h; clear h
  go_enter Try.func29, Try.ntmps29
  go_wp2_with fail
  go_end0
  have h := H.out
  have ho : Only g none w ((w.setCell ⟨g, 0, none⟩ (.slice none 0 0)).setCell ⟨g, 1, none⟩ (.int .i64 0)) := ((Only.refl _ _ _).setCell _ _).setCell _ _
  have hn : ∀ {x y}, RdO w g (blkOf A) x y → RdO _ g (blkOf none) x y := fun q => (q.only ho.weak).row (.inr (.inl rfl))
  refine ⟨rfl, ho.weak, _, ⟨⟨none, 0, 0⟩, ⟨A0, n0, c0⟩, ⟨A1, n1, c1⟩, s0, s1, ⟨?_, h.lo, World.ownsRow_nil _ _ _ _, by simp [blkOf], hn h.rn0, hn h.rn1, hn h.rs0, hn h.rs1, clear_ok h.ok⟩, rfl⟩, .inr (.inl rfl)⟩
  rw [row_setCell (row_setCell h.blk)]
  simp [cellsD, St.clear]

theorem new_any (room : Int) (w : World) :
    Calls Try.prog 15 #[.int .i64 room] w fun e w' => e = .returned (ptr w.heap.size) ∧ Below w.heap.size w w' ∧ DiskAt w' w.heap.size w.heap.size none (newS room) := by
  go_enter Try.func15, Try.ntmps15
  go_wp2_with fail
  go_ret
  refine ⟨rfl, (Below.refl _ _).alloc (Nat.le_refl _) _, ⟨none, 0, 0⟩, ⟨none, 0, 0⟩, ⟨none, 0, 0⟩, ⟨none, 0, 0⟩, ⟨none, 0, 0⟩, ⟨?_, Nat.le_refl _, World.ownsRow_nil _ _ _ _, by simp [blkOf], RdO.nil_, RdO.nil_, RdO.nil_, RdO.nil_, newS_ok room⟩, rfl⟩
  rw [heap_alloc_new]
  simp [cellsD, newS]
end Go.Proofs.Ytkcehoejcklmfaa.K
