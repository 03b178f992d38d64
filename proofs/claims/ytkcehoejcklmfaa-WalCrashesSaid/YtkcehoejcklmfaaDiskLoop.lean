/- The loops that do a row of things: what holds at their heads, and what a round does to it. -/
import Derived.Test.YtkcehoejcklmfaaDiskAlike
namespace Go.Proofs.Ytkcehoejcklmfaa.K
open Go.RowKit D O

/-- The reference's disk in a box. -/
def BoxAt (w : World) (g : Nat) (r : Option Nat) (bx : Nat) (s : St) (A : Option Addr) (c : Nat) (A' : Option Addr) (c' : Nat) : Prop :=
  w.heap[bx]? = some (.cells #[.int .i64 (s.room : Int), str s.sure, str s.rest, .slice A 2 c, .slice A' 2 c'] 27 (0, 0)) ∧ Two w g r A s.n0 s.n1 ∧ Two w g r A' s.s0 s.s1
structure Loop (w0 : World) (base g bx : Nat) (r : Option Nat) (A : Option Addr) (n : Nat) (xs : List Value) (s t : St) (w : World) : Prop where
  below : Below base w0 w
  disk : DiskAt w base g r s
  box : ∃ Z c Z' c', BoxAt w g r bx t Z c Z' c'
  tok : t.ok
  bxg : bx ≠ g
  bxr : r ≠ some bx
  bxb : base ≤ bx
  row : Rd w w.heap.size 3 A n xs
  ap : 0 < xs.length → ∀ b, blkOf A = some b → b ≠ g ∧ r ≠ some b ∧ b ≠ bx

theorem Rd.only {w w' : World} {size n g : Nat} {r : Option Nat} {A : Option Addr} {xs : List Value} (h : Rd w w.heap.size size A n xs) (ho : Only g r w w') (ha : 0 < xs.length → ∀ b, blkOf A = some b → b ≠ g ∧ r ≠ some b) : Rd w' w'.heap.size size A n xs := by
  refine ⟨h.1, fun hp => ?_⟩
  obtain ⟨b, off, e, hlt, hc⟩ := h.2 hp
  have h2 := ha hp b (by rw [e]; rfl)
  exact ⟨b, off, e, Nat.lt_of_lt_of_le hlt ho.size, fun j hj => (World.cell?_of_block (a := ⟨b, off + j, none⟩) (ho.block b hlt h2.1 h2.2)).trans (hc j hj)⟩
theorem Rd.setCell2 {w : World} {size n b j : Nat} {A : Option Addr} {xs : List Value} (h : Rd w w.heap.size size A n xs) (ha : 0 < xs.length → ∀ q, blkOf A = some q → q ≠ b) (u : Value) : Rd (w.setCell ⟨b, j, none⟩ u) (w.setCell ⟨b, j, none⟩ u).heap.size size A n xs := by
  refine ⟨h.1, fun hp => ?_⟩
  obtain ⟨q, off, e, hlt, hc⟩ := h.2 hp
  have hne := ha hp q (by rw [e]; rfl)
  refine ⟨q, off, e, by simpa [World.setCell] using hlt, fun i hi => ?_⟩
  rw [World.cell?_of_block (a := ⟨q, off + i, none⟩) (Below.heap_setCell _ _ _ _ hne)]
  exact hc i hi
theorem Rd.box {w w' : World} {size n N m : Nat} {A : Option Addr} {xs : List Value} (h : Rd w w.heap.size size A n xs) (hb : Box N m w w') (ha : 0 < xs.length → ∀ b, blkOf A = some b → b < N ∨ N + m ≤ b) : Rd w' w'.heap.size size A n xs := by
  refine ⟨h.1, fun hp => ?_⟩
  obtain ⟨b, off, e, hlt, hc⟩ := h.2 hp
  exact ⟨b, off, e, by rw [hb.size]; exact hlt, fun j hj => (World.cell?_of_block (a := ⟨b, off + j, none⟩) (hb.block b (ha hp b (by rw [e]; rfl)))).trans (hc j hj)⟩

section
variable {w0 w w' : World} {base g bx n : Nat} {r : Option Nat} {A : Option Addr} {xs : List Value} {s t : St}
theorem BoxAt.ref {Z Z' : Option Addr} {c c' : Nat} (h : BoxAt w g r bx s Z c Z' c') : RefAt w g r (.agg #[.int .i64 (s.room : Int), str s.sure, str s.rest, .slice Z 2 c, .slice Z' 2 c']) s := ⟨_, _, _, _, rfl, h.2.1, h.2.2⟩
theorem Loop.keep (h : Loop w0 base g bx r A n xs s t w) (hB : base ≤ w.heap.size) (hb : Below w.heap.size w w') : Loop w0 base g bx r A n xs s t w' := by
  obtain ⟨Z, c, Z', c', h1, h2, h3⟩ := h.box
  exact ⟨h.below.trans (hb.mono hB), h.disk.below hb, ⟨Z, c, Z', c', blk_old hb h1, h2.below hb, h3.below hb⟩, h.tok, h.bxg, h.bxr, h.bxb, h.row.next hb, h.ap⟩
theorem Loop.turn {w1 w2 w4 : World} {r2 : Option Nat} {s2 t2 : St} {Z2 Z2' : Option Addr} {c2 c2' : Nat} (h : Loop w0 base g bx r A n xs s t w) (hB : base ≤ w.heap.size) (b1 : Below w.heap.size w w1) (o : Only g r w1 w2) (d2 : DiskAt w2 base g r2 s2) (ht : t2.ok)
    (x2 : RefAt w2 g r2 (.agg #[.int .i64 (t2.room : Int), str t2.sure, str t2.rest, .slice Z2 2 c2, .slice Z2' 2 c2']) t2) (n2 : r2 = r ∨ r2 = none ∨ ∃ k, r2 = some k ∧ w1.heap.size ≤ k) (b3 : Below w2.heap.size w2 w4) :
    Loop w0 base g bx r2 A n xs s2 t2 (((((w4.setCell ⟨bx, 0, none⟩ (.int .i64 (t2.room : Int))).setCell ⟨bx, 1, none⟩ (str t2.sure)).setCell ⟨bx, 2, none⟩ (str t2.rest)).setCell ⟨bx, 3, none⟩ (.slice Z2 2 c2)).setCell ⟨bx, 4, none⟩ (.slice Z2' 2 c2')) := by
  obtain ⟨Z, c, Z', c', h1, h2, h3⟩ := h.box
  have q1 := blk_old b1 h1
  have q2 := blk_only o q1 h.bxg h.bxr
  have q4 := blk_old b3 q2
  have hbx := lt_of_block h1
  have hN : ∀ k, bx ≤ k → k < bx + 1 → NoB w4 k := fun k hk1 hk2 => by
    obtain rfl : k = bx := by omega
    exact ⟨_, _, q4, by simp [noU8], by decide⟩
  have hbox : Box bx 1 w4 (((((w4.setCell ⟨bx, 0, none⟩ (.int .i64 (t2.room : Int))).setCell ⟨bx, 1, none⟩ (str t2.sure)).setCell ⟨bx, 2, none⟩ (str t2.rest)).setCell ⟨bx, 3, none⟩ (.slice Z2 2 c2)).setCell ⟨bx, 4, none⟩ (.slice Z2' 2 c2')) :=
    (((((Box.refl _ _ _).setCell (by omega) (by omega) _).setCell (by omega) (by omega) _).setCell (by omega) (by omega) _).setCell (by omega) (by omega) _).setCell (by omega) (by omega) _
  have hr2 : r2 ≠ some bx := by
    rcases n2 with rfl | rfl | ⟨k, rfl, hk⟩
    · exact h.bxr
    · simp
    · intro e; injection e with e; have := b1.size; omega
  obtain ⟨y1, y2⟩ : Two w2 g r2 Z2 t2.n0 t2.n1 ∧ Two w2 g r2 Z2' t2.s0 t2.s1 := by
    obtain ⟨a, b, a', b', e, y1, y2⟩ := x2
    injection e with e
    simp at e
    obtain ⟨⟨rfl, rfl⟩, rfl, rfl⟩ := e
    exact ⟨y1, y2⟩
  have hlt := h.disk.lt
  have bel : Below base w1 w2 := o.below hlt.1 (fun k hk => (hlt.2.2 k hk).1) (Nat.le_trans hB b1.size)
  have s12 := b1.size
  have s24 := o.size
  refine ⟨?_, (d2.below b3).box hbox hN (by have := h.bxg; omega) (fun k hk => by rcases Nat.lt_trichotomy k bx with h | h | h; exact .inl h; exact absurd (h ▸ hk) hr2; exact .inr (by omega)), ⟨Z2, c2, Z2', c2', ?_, (y1.below b3).box hbox hN, (y2.below b3).box hbox hN⟩, ht, h.bxg, hr2, h.bxb, ?_, fun hp b hb => ?_⟩
  · exact Box.below (((h.below.trans (b1.mono hB)).trans bel).trans (b3.mono (by omega))) hbox h.bxb
  · rw [row_setCell (row_setCell (row_setCell (row_setCell (row_setCell q4))))]
    simp
  · have a1 := h.row.next b1
    have a2 := Rd.only a1 o (fun hp b hb => ⟨(h.ap hp b hb).1, (h.ap hp b hb).2.1⟩)
    exact Rd.box (a2.next b3) hbox (fun hp b hb => by have := (h.ap hp b hb).2.2; omega)
  · obtain ⟨e1, e2, e3⟩ := h.ap hp b hb
    refine ⟨e1, ?_, e3⟩
    rcases n2 with rfl | rfl | ⟨k, rfl, hk⟩
    · exact e2
    · simp
    · intro e; injection e with e
      obtain ⟨q, off, ea, hlt, _⟩ := h.row.2 hp
      rw [ea] at hb
      simp [blkOf] at hb
      omega
end

/-- The disk alone turned. -/
theorem Loop.turned {w0 w w2 : World} {base g bx n : Nat} {r r2 : Option Nat} {A : Option Addr} {xs : List Value} {s t s2 : St} (h : Loop w0 base g bx r A n xs s t w) (hB : base ≤ w.heap.size) (o : Only g r w w2) (d2 : DiskAt w2 base g r2 s2)
    (n2 : r2 = r ∨ r2 = none ∨ ∃ k, r2 = some k ∧ w.heap.size ≤ k) : Loop w0 base g bx r2 A n xs s2 t w2 := by
  obtain ⟨Z, c, Z', c', h1, h2, h3⟩ := h.box
  have hlt := h.disk.lt
  have bel : Below base w w2 := o.below hlt.1 (fun k hk => (hlt.2.2 k hk).1) hB
  refine ⟨h.below.trans bel, d2, ⟨Z, c, Z', c', blk_only o h1 h.bxg h.bxr, h2.only o n2, h3.only o n2⟩, h.tok, h.bxg, ?_, h.bxb, Rd.only h.row o (fun hp b hb => ⟨(h.ap hp b hb).1, (h.ap hp b hb).2.1⟩), fun hp b hb => ?_⟩
  · rcases n2 with rfl | rfl | ⟨k, rfl, hk⟩
    · exact h.bxr
    · simp
    · intro e; injection e with e; have := lt_of_block h1; omega
  · obtain ⟨e1, e2, e3⟩ := h.ap hp b hb
    refine ⟨e1, ?_, e3⟩
    rcases n2 with rfl | rfl | ⟨k, rfl, hk⟩
    · exact e2
    · simp
    · intro e; injection e with e
      obtain ⟨q, off, ea, hlt, _⟩ := h.row.2 hp
      rw [ea] at hb
      simp [blkOf] at hb
      omega
/-- Another row. -/
theorem Loop.newRow {w0 w w5 : World} {base g bx n n' c' e : Nat} {r : Option Nat} {A A' : Option Addr} {xs xs' : List Value} {s t : St} (h : Loop w0 base g bx r A n xs s t w) (hB : base ≤ w.heap.size) (b5 : Below w.heap.size w w5) (own : w5.ownsRow w.heap.size e 3 (.slice A' n' c') n' xs') :
    Loop w0 base g bx r A' n' xs' s t w5 := by
  have k := h.keep hB b5
  refine ⟨k.below, k.disk, k.box, k.tok, k.bxg, k.bxr, k.bxb, Rd.of_own own, fun hp b hb => ?_⟩
  have hn : 0 < n' := by
    have := own.1
    rcases Nat.eq_zero_or_pos n' with h | h
    · subst h; omega
    · exact h
  obtain ⟨q, rfl, h1, h2⟩ := own_at own hn
  simp [blkOf] at hb
  subst hb
  obtain ⟨Z, c, Z', c', hx, _⟩ := h.box
  have hbx := lt_of_block hx
  have hlt := h.disk.lt
  exact ⟨by omega, fun e => by have := (hlt.2.2 _ e).2; omega, by omega⟩
/-- A loop's beginning: a new disk, the reference's in a box, the row. -/
theorem Loop.start {w w1 w2 w4 w5 : World} {s : St} {Z Z' A : Option Addr} {c c' n ca e : Nat} {xs : List Value} (b1 : Below w.heap.size w w1) (d1 : DiskAt w1 w.heap.size w.heap.size none s) (b2 : Below w1.heap.size w1 w2)
    (x1 : Two w2 w.heap.size none Z s.n0 s.n1) (x2 : Two w2 w.heap.size none Z' s.s0 s.s1)
    (b4 : Below (w2.alloc (.cells #[.int .i64 (s.room : Int), str s.sure, str s.rest, .slice Z 2 c, .slice Z' 2 c'] 27)).heap.size (w2.alloc (.cells #[.int .i64 (s.room : Int), str s.sure, str s.rest, .slice Z 2 c, .slice Z' 2 c'] 27)) w4)
    (b5 : Below w4.heap.size w4 w5) (own : w5.ownsRow w4.heap.size e 3 (.slice A n ca) n xs) : Loop w w.heap.size w.heap.size w2.heap.size none A n xs s s w5 := by
  have ba : Below w2.heap.size w2 (w2.alloc (.cells #[.int .i64 (s.room : Int), str s.sure, str s.rest, .slice Z 2 c, .slice Z' 2 c'] 27)) := (Below.refl _ _).alloc (Nat.le_refl _) _
  have b24 := bthen ba b4
  have b25 := bthen b24 b5
  have s1 := d1.lt.2.1
  have s2 := b2.size
  have s4 : w2.heap.size < w4.heap.size := by have := b4.size; simp at this; omega
  refine ⟨bthen b1 (bthen b2 b25), (d1.below b2).below b25, ⟨Z, c, Z', c', blk_old b5 (blk_old b4 (blk_new w2 _)), x1.below b25, x2.below b25⟩, d1.ok, by omega, by simp, by omega, Rd.of_own own, fun hp b hb => ?_⟩
  have hn : 0 < n := by
    have := own.1
    rcases Nat.eq_zero_or_pos n with h | h
    · subst h; omega
    · exact h
  obtain ⟨q, rfl, h1, h2⟩ := own_at own hn
  simp [blkOf] at hb
  subst hb
  exact ⟨by omega, by simp, by omega⟩

/-- Slots that are short. -/
def Small (s : St) : Prop := s.n0.length ≤ 1000000 ∧ s.n1.length ≤ 1000000 ∧ s.s0.length ≤ 1000000 ∧ s.s1.length ≤ 1000000
theorem Small.step {s : St} (h : Small s) (o : D.Op) (ho : o.b.length ≤ 1000000) : Small (s.step o) := by
  obtain ⟨h1, h2, h3, h4⟩ := h
  unfold St.step
  split
  · exact ⟨h1, h2, h1, h2⟩
  split
  · exact ⟨h3, h4, h3, h4⟩
  split
  · unfold St.write
    split
    · exact ⟨ho, h2, h3, h4⟩
    · split
      · exact ⟨h1, ho, h3, h4⟩
      · exact ⟨h1, h2, h3, h4⟩
  split
  · exact ⟨h1, h2, h3, h4⟩
  · unfold St.app
    split
    · exact ⟨h1, h2, h3, h4⟩
    · exact ⟨h1, h2, h3, h4⟩
theorem small_new (room : Int) : Small (newS room) := ⟨by simp [newS], by simp [newS], by simp [newS], by simp [newS]⟩
theorem cutL_small (l : List D.Op) : ∀ o ∈ cutL l, o.b.length ≤ 200 := by
  intro o ho
  simp only [cutL, List.mem_map] at ho
  obtain ⟨p, _, rfl⟩ := ho
  simp [cutO]
  omega
theorem steps_snoc (s : St) (l : List D.Op) (k : Nat) (hk : k < l.length) : s.steps (l.take (k + 1)) = (s.steps (l.take k)).step l[k] := by
  unfold St.steps
  rw [List.take_succ_eq_append_getElem hk, List.foldl_append]
  rfl
theorem Small.steps {s : St} (h : Small s) (l : List D.Op) (hl : ∀ o ∈ l, o.b.length ≤ 1000000) : Small (s.steps l) := by
  induction l generalizing s with
  | nil => exact h
  | cons o l ih => exact ih (h.step o (hl o (by simp))) (fun p hp => hl p (by simp [hp]))
end Go.Proofs.Ytkcehoejcklmfaa.K
