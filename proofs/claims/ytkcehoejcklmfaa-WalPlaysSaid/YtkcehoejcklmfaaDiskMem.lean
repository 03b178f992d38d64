/- A disk in memory: the block of the struct, the row of its log (its own), the rows of the slots (nobody writes them). -/
import Derived.Test.YtkcehoejcklmfaaOctPut
import Derived.Test.YtkcehoejcklmfaaDiskPlain
import Derived.OneCell
namespace Go.Proofs.Ytkcehoejcklmfaa.K
open Go.RowKit D

/-- A slice's parts. -/
structure Sl where
  a : Option Addr
  n : Nat
  c : Nat
def blkOf (A : Option Addr) : Option Nat := A.map (·.block)
theorem own_blk (A : Option Addr) (n c : Nat) : (Value.slice A n c).ownBlock = blkOf A := by cases A <;> rfl

/-- A slice of bytes that lies apart from block g and from block r. -/
def RdO (w : World) (g : Nat) (r : Option Nat) (x : Sl) (l : List UInt8) : Prop := Rd w w.heap.size 1 x.a x.n (bv l) ∧ (0 < x.n → ∀ b, blkOf x.a = some b → b ≠ g ∧ r ≠ some b)

def cellsD (s : St) (l n0 n1 s0 s1 : Sl) : Array Value :=
  #[.slice l.a l.n l.c, .int .i64 (s.sure.length : Int), .int .i64 (s.room : Int), .slice n0.a n0.n n0.c, .slice n1.a n1.n n1.c, .slice s0.a s0.n s0.c, .slice s1.a s1.n s1.c]

structure Lies (w : World) (base g : Nat) (l n0 n1 s0 s1 : Sl) (s : St) : Prop where
  blk : w.heap[g]? = some (.cells (cellsD s l n0 n1 s0 s1) 91 (0, 0))
  lo : base ≤ g
  log : w.ownsRow base 5 1 (.slice l.a l.n l.c) l.n (bv s.log)
  off : blkOf l.a ≠ some g
  rn0 : RdO w g (blkOf l.a) n0 s.n0
  rn1 : RdO w g (blkOf l.a) n1 s.n1
  rs0 : RdO w g (blkOf l.a) s0 s.s0
  rs1 : RdO w g (blkOf l.a) s1 s.s1
  ok : s.ok

/-- The disk s lies at block g, its log in block r (if it has one). -/
def DiskAt (w : World) (base g : Nat) (r : Option Nat) (s : St) : Prop := ∃ l n0 n1 s0 s1, Lies w base g l n0 n1 s0 s1 s ∧ r = blkOf l.a

/-- Nothing that was there has turned but the blocks g and r. -/
structure Only (g : Nat) (r : Option Nat) (w w' : World) : Prop where
  os : w'.os = w.os
  tape : w'.tape = w.tape
  output : w'.output = w.output
  size : w.heap.size ≤ w'.heap.size
  block : ∀ k, k < w.heap.size → k ≠ g → r ≠ some k → w'.heap[k]? = w.heap[k]?

/-- The disk at g is s' now; nothing else that was there has turned. -/
def Turned (base g : Nat) (r : Option Nat) (s' : St) (w w' : World) : Prop := Only g r w w' ∧ ∃ r', DiskAt w' base g r' s' ∧ (r' = r ∨ r' = none ∨ ∃ k, r' = some k ∧ w.heap.size ≤ k)

theorem Only.of_below {g : Nat} {r : Option Nat} {w w' : World} (h : Below w.heap.size w w') : Only g r w w' := ⟨h.os, h.tape, h.output, h.size, fun k hk _ _ => h.block k hk⟩
theorem Only.refl (g : Nat) (r : Option Nat) (w : World) : Only g r w w := .of_below (Below.refl _ _)
theorem Only.below {base g : Nat} {r : Option Nat} {w w' : World} (h : Only g r w w') (hg : base ≤ g) (hr : ∀ k, r = some k → base ≤ k) (hb : base ≤ w.heap.size) : Below base w w' :=
  ⟨h.os, h.tape, h.output, h.size, fun k hk => h.block k (by omega) (by omega) (fun e => by have := hr k e; omega)⟩
theorem Only.drew {g : Nat} {r : Option Nat} {a w : World} (h : Only g r a w) : Only g r a w.drew := ⟨h.os, h.tape, h.output, h.size, h.block⟩
theorem Only.setCell {g : Nat} {r : Option Nat} {a w : World} (h : Only g r a w) (j : Nat) (u : Value) : Only g r a (w.setCell ⟨g, j, none⟩ u) :=
  ⟨h.os, h.tape, h.output, by simpa [World.setCell] using h.size, fun k hk hg hr => (Below.heap_setCell _ _ _ _ hg).trans (h.block k hk hg hr)⟩
theorem Only.then_ {g : Nat} {r : Option Nat} {a w w' : World} (h : Only g r a w) (hb : Below w.heap.size w w') : Only g r a w' :=
  ⟨hb.os.trans h.os, hb.tape.trans h.tape, hb.output.trans h.output, Nat.le_trans h.size hb.size, fun k hk hg hr => (hb.block k (Nat.lt_of_lt_of_le hk h.size)).trans (h.block k hk hg hr)⟩

section
variable {w w' : World} {base g : Nat} {r : Option Nat} {s : St} {l n0 n1 s0 s1 : Sl}
theorem Rd.blk_lt {B size n : Nat} {A : Option Addr} {xs : List Value} (h : Rd w B size A n xs) (hn : 0 < xs.length) : ∃ a, A = some a ∧ a.block < B := by
  obtain ⟨b, off, e, hb, _⟩ := h.2 hn
  exact ⟨_, e, hb⟩
theorem RdO.only {x : Sl} {y : List UInt8} (h : RdO w g r x y) (hk : Only g r w w') : RdO w' g r x y := by
  refine ⟨?_, h.2⟩
  have hl : y.length = x.n := by have := h.1.1; simp at this; omega
  refine ⟨h.1.1, fun hn => ?_⟩
  obtain ⟨b, off, e, hb, hc⟩ := h.1.2 hn
  have h2 := h.2 (by simp at hn; omega) b (by rw [e]; rfl)
  exact ⟨b, off, e, Nat.lt_of_lt_of_le hb hk.size, fun j hj => (World.cell?_of_block (a := ⟨b, off + j, none⟩) (hk.block b hb h2.1 h2.2)).trans (hc j hj)⟩
theorem RdO.below {x : Sl} {y : List UInt8} (h : RdO w g r x y) (hk : Below w.heap.size w w') : RdO w' g r x y := h.only (.of_below hk)
theorem RdO.row {x : Sl} {y : List UInt8} {r' : Option Nat} (h : RdO w g r x y) (hr : r' = r ∨ r' = none ∨ ∃ k, r' = some k ∧ w.heap.size ≤ k) : RdO w g r' x y := by
  refine ⟨h.1, fun hn b hb => ?_⟩
  obtain ⟨h1, h2⟩ := h.2 hn b hb
  refine ⟨h1, ?_⟩
  rcases hr with rfl | rfl | ⟨k, rfl, hk⟩
  · exact h2
  · simp
  · have hl : y.length = x.n := by have := h.1.1; simp at this; omega
    obtain ⟨a, ea, hlt⟩ := Rd.blk_lt h.1 (by simp; omega)
    rw [ea] at hb
    simp [blkOf] at hb
    intro e
    injection e with e
    omega
theorem Lies.lt (h : Lies w base g l n0 n1 s0 s1 s) : g < w.heap.size := lt_of_block h.blk
theorem Lies.row (h : Lies w base g l n0 n1 s0 s1 s) (k : Nat) (hk : blkOf l.a = some k) : base ≤ k ∧ k < w.heap.size := h.log.lt k (by rw [own_blk]; exact hk)
theorem Lies.below (h : Lies w base g l n0 n1 s0 s1 s) (hb : Below w.heap.size w w') : Lies w' base g l n0 n1 s0 s1 s :=
  ⟨(hb.block g h.lt).trans h.blk, h.lo, own_below h.log hb, h.off, h.rn0.below hb, h.rn1.below hb, h.rs0.below hb, h.rs1.below hb, h.ok⟩
theorem Lies.cell (h : Lies w base g l n0 n1 s0 s1 s) (j : Nat) : w.cell? ⟨g, j, none⟩ = (cellsD s l n0 n1 s0 s1)[j]? := cell_of_row w g j _ _ _ h.blk
theorem Lies.free (h : Lies w base g l n0 n1 s0 s1 s) (j : Nat) : w.frozen? ⟨g, j, none⟩ = false := by simp [World.frozen?, h.blk]
theorem Lies.len (h : Lies w base g l n0 n1 s0 s1 s) : s.log.length = l.n := by have := h.log.1; simp at this; omega
theorem DiskAt.below (h : DiskAt w base g r s) (hb : Below w.heap.size w w') : DiskAt w' base g r s := by
  obtain ⟨l, n0, n1, s0, s1, h, e⟩ := h
  exact ⟨l, n0, n1, s0, s1, h.below hb, e⟩
theorem DiskAt.lt (h : DiskAt w base g r s) : base ≤ g ∧ g < w.heap.size ∧ ∀ k, r = some k → base ≤ k ∧ k < w.heap.size := by
  obtain ⟨l, n0, n1, s0, s1, h, rfl⟩ := h
  exact ⟨h.lo, h.lt, h.row⟩
theorem DiskAt.ok (h : DiskAt w base g r s) : s.ok := by obtain ⟨l, n0, n1, s0, s1, h, rfl⟩ := h; exact h.ok
/-- What lies below the disk's own memory stays as it was. -/
theorem Turned.below {s' : St} (h : Turned base g r s' w w') (hd : DiskAt w base g r s) (hb : base ≤ w.heap.size) : Below base w w' := h.1.below hd.lt.1 (fun k hk => (hd.lt.2.2 k hk).1) hb

theorem row_setCell {b j : Nat} {cs : Array Value} {u : Value} {t : TypeId} (h : w.heap[b]? = some (.cells cs t (0, 0))) : (w.setCell ⟨b, j, none⟩ u).heap[b]? = some (.cells (cs.set! j u) t (0, 0)) := by
  have hlt := lt_of_block h
  have h' : w.heap[b] = .cells cs t (0, 0) := by simpa [Array.getElem?_eq_getElem hlt] using h
  show (w.heap.modify b _)[b]? = _
  rw [Array.getElem?_eq_getElem (by simpa using hlt), Array.getElem_modify_self, h']
  rfl
theorem Only.weak (h : Only g none w w') : Only g r w w' := ⟨h.os, h.tape, h.output, h.size, fun k hk hg _ => h.block k hk hg (by simp)⟩
theorem Only.grown (h : Only g none w w') : w.grownBy w' (some g) := ⟨h.os, h.tape, h.output, h.size, fun k hk hg => h.block k hk (fun e => hg (by rw [e])) (by simp)⟩
theorem Lies.own (h : Lies w base g l n0 n1 s0 s1 s) (ho : Only g none w w') : w'.ownsRow base 5 1 (.slice l.a l.n l.c) l.n (bv s.log) := h.log.kept ho.grown (.inr (by rw [own_blk]; exact h.off))
theorem RdO.nil_ {A : Option Addr} {c : Nat} : RdO w g r ⟨A, 0, c⟩ [] := ⟨Rd.nil_, fun h => absurd h (by simp)⟩
theorem own_cap {e : Nat} {A : Option Addr} {n c : Nat} {xs : List Value} (h : w.ownsRow base e 1 (.slice A n c) n xs) : n ≤ c ∧ c ≤ 9223372036854775807 := by
  rcases h.2 with ⟨e1, h0⟩ | ⟨g, cap, cur, e1, hb, hg, hnc, hcm, hcs, ht⟩
  · injection e1 with e1 e2 e3
    omega
  · injection e1 with e1 e2 e3
    subst e3
    exact ⟨hnc, by unfold maxLen at hcm; omega⟩
theorem own_take {e : Nat} {A : Option Addr} {n c k : Nat} {xs : List Value} (h : w.ownsRow base e 1 (.slice A n c) n xs) (hk : k ≤ n) : w.ownsRow base e 1 (.slice A k c) k (xs.take k) := by
  have h1 := h.1
  refine ⟨by simp; omega, ?_⟩
  rcases h.2 with ⟨e1, h0⟩ | ⟨g, cap, cur, e1, hb, hg, hnc, hcm, hcs, ht⟩
  · injection e1 with e1 e2 e3
    subst e1 e2 e3
    exact .inl ⟨by rw [Nat.le_zero.1 hk], by omega⟩
  · injection e1 with e1 e2 e3
    subst e1 e3
    exact .inr ⟨g, _, cur, rfl, hb, hg, by omega, hcm, hcs, by rw [← ht, List.take_take]; congr 1; omega⟩
end
end Go.Proofs.Ytkcehoejcklmfaa.K
