/- Boxes of a call's own beside a disk: what is stored into them leaves both disks as they are. -/
import Derived.Test.YtkcehoejcklmfaaDiskOps
namespace Go.Proofs.Ytkcehoejcklmfaa.K
open Go.RowKit D O

/-- Nothing has turned but the n blocks from N on. -/
structure Box (N n : Nat) (w w' : World) : Prop where
  os : w'.os = w.os
  tape : w'.tape = w.tape
  output : w'.output = w.output
  size : w'.heap.size = w.heap.size
  block : ∀ k, (k < N ∨ N + n ≤ k) → w'.heap[k]? = w.heap[k]?
theorem Box.refl (N n : Nat) (w : World) : Box N n w w := ⟨rfl, rfl, rfl, rfl, fun _ _ => rfl⟩
theorem Box.setCell {N n : Nat} {a w : World} (h : Box N n a w) {b j : Nat} (h1 : N ≤ b) (h2 : b < N + n) (u : Value) : Box N n a (w.setCell ⟨b, j, none⟩ u) :=
  ⟨h.os, h.tape, h.output, by simpa [World.setCell] using h.size, fun k hk => (Below.heap_setCell _ _ _ _ (by simp only; omega)).trans (h.block k hk)⟩
theorem Box.drew {N n : Nat} {a w : World} (h : Box N n a w) : Box N n a w.drew := ⟨h.os, h.tape, h.output, h.size, h.block⟩
theorem Box.below {N n B : Nat} {a w w' : World} (hb : Below B a w) (h : Box N n w w') (hB : B ≤ N) : Below B a w' :=
  ⟨h.os.trans hb.os, h.tape.trans hb.tape, h.output.trans hb.output, by rw [h.size]; exact hb.size, fun k hk => (h.block k (by omega)).trans (hb.block k hk)⟩

/-- A block in which no byte lies. -/
def noU8 : Value → Bool
  | .int .u8 _ => false
  | _ => true
def NoB (w : World) (k : Nat) : Prop := ∃ (cs : Array Value) (t : TypeId), w.heap[k]? = some (.cells cs t (0, 0)) ∧ (∀ v ∈ cs, noU8 v = true) ∧ t ≠ 9
theorem cells3 {w : World} {b : Nat} {x0 x1 x2 : Value} {t : TypeId} (h : w.heap[b]? = some (.cells #[x0, x1, x2] t (0, 0))) :
    (w.cell? ⟨b, 0, none⟩ = some x0 ∧ w.cell? ⟨b, 1, none⟩ = some x1 ∧ w.cell? ⟨b, 2, none⟩ = some x2) ∧ (w.frozen? ⟨b, 0, none⟩ = false ∧ w.frozen? ⟨b, 1, none⟩ = false ∧ w.frozen? ⟨b, 2, none⟩ = false) := by
  have hc := fun j => cell_of_row w b j _ _ _ h
  exact ⟨⟨hc 0, hc 1, hc 2⟩, by simp [World.frozen?, h]⟩
theorem blk_only {g : Nat} {r : Option Nat} {w w' : World} {b : Nat} {o : Obj} (ho : Only g r w w') (h : w.heap[b]? = some o) (hg : b ≠ g) (hr : r ≠ some b) : w'.heap[b]? = some o := (ho.block b (lt_of_block h) hg hr).trans h

section
variable {w w' : World} {N n base g : Nat} {r : Option Nat} {s : St}
theorem Rd.apart {l : List UInt8} {A : Option Addr} {m k b : Nat} (h : Rd w w.heap.size 1 A m (bv l)) (hk : NoB w k) (hm : 0 < m) (hb : blkOf A = some b) : b ≠ k := by
  rintro rfl
  obtain ⟨cs, t, hc, hn, _⟩ := hk
  have hl : l.length = m := by have := h.1; simp at this; omega
  obtain ⟨q, off, e, _, hcell⟩ := h.2 (by simp; omega)
  subst e
  simp [blkOf] at hb
  subst hb
  have := hcell 0 (by simp; omega)
  rw [Nat.add_zero, cell_of_row w q off _ _ _ hc, bv_get l 0 (by omega)] at this
  have hmem := Array.mem_of_getElem? this
  have := hn _ hmem
  simp [noU8] at this
theorem RdO.box {x : Sl} {y : List UInt8} (h : RdO w g r x y) (hb : Box N n w w') (hN : ∀ k, N ≤ k → k < N + n → NoB w k) : RdO w' g r x y := by
  refine ⟨⟨h.1.1, fun hp => ?_⟩, h.2⟩
  have hl : y.length = x.n := by have := h.1.1; simp at this; omega
  have hx : 0 < x.n := by simp at hp; omega
  obtain ⟨b, off, e, hlt, hc⟩ := h.1.2 hp
  have hout : b < N ∨ N + n ≤ b := by
    rcases Nat.lt_or_ge b N with h1 | h1
    · exact .inl h1
    · rcases Nat.lt_or_ge b (N + n) with h2 | h2
      · exact absurd rfl (Rd.apart h.1 (hN b h1 h2) hx (by rw [e]; rfl))
      · exact .inr h2
  exact ⟨b, off, e, by rw [hb.size]; exact hlt, fun j hj => (World.cell?_of_block (a := ⟨b, off + j, none⟩) (hb.block b hout)).trans (hc j hj)⟩
theorem DiskAt.box (h : DiskAt w base g r s) (hb : Box N n w w') (hN : ∀ k, N ≤ k → k < N + n → NoB w k) (hg : g < N ∨ N + n ≤ g) (hr : ∀ k, r = some k → k < N ∨ N + n ≤ k) : DiskAt w' base g r s := by
  obtain ⟨l, n0, n1, s0, s1, h, e⟩ := h
  refine ⟨l, n0, n1, s0, s1, ⟨(hb.block g hg).trans h.blk, h.lo, ?_, h.off, h.rn0.box hb hN, h.rn1.box hb hN, h.rs0.box hb hN, h.rs1.box hb hN, h.ok⟩, e⟩
  refine ⟨h.log.1, ?_⟩
  rcases h.log.2 with h0 | ⟨q, cap, cur, e1, h1, h2, h3⟩
  · exact .inl h0
  · refine .inr ⟨q, cap, cur, e1, h1, (hb.block q (hr q ?_)).trans h2, h3⟩
    rw [e, ← own_blk l.a l.n l.c, e1]
    rfl
theorem Two.box {A : Option Addr} {a b : List UInt8} (h : Two w g r A a b) (hb : Box N n w w') (hN : ∀ k, N ≤ k → k < N + n → NoB w k) : Two w' g r A a b := by
  obtain ⟨k, off, e, hlt, h0, h1⟩ := h.at_
  obtain ⟨h2, cs, fr, htag⟩ := h.2 k (by rw [e]; rfl)
  have hout : k < N ∨ N + n ≤ k := by
    rcases Nat.lt_or_ge k N with h1 | h1
    · exact .inl h1
    · rcases Nat.lt_or_ge k (N + n) with h2 | h2
      · obtain ⟨cs', t, hc, _, ht⟩ := hN k h1 h2
        rw [htag] at hc
        injection hc with hc
        injection hc with _ hc _
        exact absurd hc.symm ht
      · exact .inr h2
  refine ⟨⟨by simp, fun _ => ⟨k, off, e, by rw [hb.size]; exact hlt, fun j hj => ?_⟩⟩, fun k' hk' => ?_⟩
  · rw [World.cell?_of_block (a := ⟨k, off + j, none⟩) (hb.block k hout)]
    obtain ⟨k2, off2, e2, _, hc⟩ := h.1.2 (by simp)
    rw [e] at e2
    injection e2 with e2
    injection e2 with e3 e4
    subst e3 e4
    exact hc j hj
  · rw [e] at hk'
    simp [blkOf] at hk'
    subst hk'
    exact ⟨h2, cs, fr, (hb.block k hout).trans htag⟩
theorem RefAt.box {v : Value} (h : RefAt w g r v s) (hb : Box N n w w') (hN : ∀ k, N ≤ k → k < N + n → NoB w k) : RefAt w' g r v s := by
  obtain ⟨A, c, A', c', e, h1, h2⟩ := h
  exact ⟨A, c, A', c', e, h1.box hb hN, h2.box hb hN⟩
end

/-- What a step leaves: both disks, and what it let alone. -/
def DoPost (base g : Nat) (r : Option Nat) (s' t' : St) (ok : Bool) (w : World) (e : Ending) (w' : World) : Prop :=
  ∃ v' r', e = .returned (.tuple #[v', .bool ok]) ∧ DiskAt w' base g r' s' ∧ RefAt w' g r' v' t' ∧ Only g r w w' ∧ (r' = r ∨ r' = none ∨ ∃ k, r' = some k ∧ w.heap.size ≤ k)
/-- The end of a step: the disk turned first, then the reference's was made, then boxes of the step's own were written. -/
theorem DoPost.mk {base g : Nat} {r r1 : Option Nat} {s' t' : St} {ok : Bool} {w w0 w1 w2 w3 : World} {v : Value} (h0 : Below w.heap.size w w0) (hw0 : w.heap.size + 3 ≤ w0.heap.size) (h1 : Only g r w0 w1) (hd : DiskAt w1 base g r1 s') (hn : r1 = r ∨ r1 = none ∨ ∃ k, r1 = some k ∧ w0.heap.size ≤ k)
    (h2 : Below w1.heap.size w1 w2) (hx : RefAt w2 g r1 v t') (h3 : Box w.heap.size 3 w2 w3) (hN : ∀ k, w.heap.size ≤ k → k < w.heap.size + 3 → NoB w2 k) (hg : g < w.heap.size) (hr : ∀ k, r = some k → k < w.heap.size) :
    DoPost base g r s' t' ok w (.returned (.tuple #[v, .bool ok])) w3 := by
  refine ⟨v, r1, rfl, (hd.below h2).box h3 hN (.inl hg) (fun k hk => ?_), hx.box h3 hN, ?_, ?_⟩
  · rcases hn with rfl | rfl | ⟨q, rfl, hq⟩
    · exact .inl (hr k hk)
    · cases hk
    · injection hk with hk; omega
  · refine ⟨(h3.os.trans h2.os).trans (h1.os.trans h0.os), (h3.tape.trans h2.tape).trans (h1.tape.trans h0.tape), (h3.output.trans h2.output).trans (h1.output.trans h0.output), ?_, fun k hk hkg hkr => ?_⟩
    · rw [h3.size]; exact Nat.le_trans h0.size (Nat.le_trans h1.size h2.size)
    · have q1 := h1.size
      have q0 := h0.size
      rw [h3.block k (.inl hk), h2.block k (by omega), h1.block k (by omega) hkg hkr, h0.block k hk]
  · rcases hn with h | h | ⟨q, e, hq⟩
    · exact .inl h
    · exact .inr (.inl h)
    · exact .inr (.inr ⟨q, e, by have := h0.size; omega⟩)
end Go.Proofs.Ytkcehoejcklmfaa.K
