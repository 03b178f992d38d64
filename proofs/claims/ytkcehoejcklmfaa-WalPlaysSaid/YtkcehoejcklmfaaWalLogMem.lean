/- A log in memory: a block of three cells beside its disk. -/
import Derived.Test.YtkcehoejcklmfaaWalLogPlain
import Derived.Test.YtkcehoejcklmfaaDiskBox
namespace Go.Proofs.Ytkcehoejcklmfaa.L
open Go.RowKit O D K

structure LogAt (w : World) (base g lg : Nat) (r : Option Nat) (x : LS) : Prop where
  disk : DiskAt w base g r x.s
  blk : w.heap[lg]? = some (.cells #[ptr g, .int .u32 (x.gen : Int), .int .i64 (x.kept : Int)] 113 (0, 0))
  lgg : lg ≠ g
  lgr : r ≠ some lg
  lgb : base ≤ lg
  ok : x.ok
/-- Nothing that was there has turned but the blocks g, lg and r. -/
structure OnlyL (g lg : Nat) (r : Option Nat) (w w' : World) : Prop where
  os : w'.os = w.os
  tape : w'.tape = w.tape
  output : w'.output = w.output
  size : w.heap.size ≤ w'.heap.size
  block : ∀ k, k < w.heap.size → k ≠ g → k ≠ lg → r ≠ some k → w'.heap[k]? = w.heap[k]?
def NxR (r r' : Option Nat) (w : World) : Prop := r' = r ∨ r' = none ∨ ∃ k, r' = some k ∧ w.heap.size ≤ k
/-- The log is x' now; nothing else that was there has turned. -/
def TurnedL (base g lg : Nat) (r : Option Nat) (x' : LS) (w w' : World) : Prop := OnlyL g lg r w w' ∧ ∃ r', LogAt w' base g lg r' x' ∧ NxR r r' w

section
variable {w w' : World} {base g lg : Nat} {r : Option Nat} {x : LS}
theorem OnlyL.of_only (h : Only g r w w') : OnlyL g lg r w w' := ⟨h.os, h.tape, h.output, h.size, fun k hk h1 _ h3 => h.block k hk h1 h3⟩
theorem OnlyL.of_below (h : Below w.heap.size w w') : OnlyL g lg r w w' := .of_only (.of_below h)
theorem OnlyL.box {N : Nat} {w'' : World} (h : OnlyL g N r w w') (hb : Box N 1 w' w'') : OnlyL g N r w w'' :=
  ⟨hb.os.trans h.os, hb.tape.trans h.tape, hb.output.trans h.output, by rw [hb.size]; exact h.size, fun k hk h1 h2 h3 => (hb.block k (by omega)).trans (h.block k hk h1 h2 h3)⟩
theorem OnlyL.then_ {w'' : World} (h : OnlyL g lg r w w') (hb : Below w'.heap.size w' w'') : OnlyL g lg r w w'' :=
  ⟨hb.os.trans h.os, hb.tape.trans h.tape, hb.output.trans h.output, Nat.le_trans h.size hb.size, fun k hk h1 h2 h3 => (hb.block k (Nat.lt_of_lt_of_le hk h.size)).trans (h.block k hk h1 h2 h3)⟩
theorem OnlyL.below (h : OnlyL g lg r w w') (hg : base ≤ g) (hl : base ≤ lg) (hr : ∀ k, r = some k → base ≤ k) (hb : base ≤ w.heap.size) : Below base w w' :=
  ⟨h.os, h.tape, h.output, h.size, fun k hk => h.block k (by omega) (by omega) (by omega) (fun e => by have := hr k e; omega)⟩
theorem LogAt.below (h : LogAt w base g lg r x) (hb : Below w.heap.size w w') : LogAt w' base g lg r x := ⟨h.disk.below hb, blk_old hb h.blk, h.lgg, h.lgr, h.lgb, h.ok⟩
theorem LogAt.noB (h : LogAt w base g lg r x) : ∀ k, lg ≤ k → k < lg + 1 → NoB w k := fun k h1 h2 => by
  obtain rfl : k = lg := by omega
  exact ⟨_, _, h.blk, by simp [noU8], by decide⟩
theorem TurnedL.next {x' : LS} (h : TurnedL base g lg r x' w w') (hd : LogAt w base g lg r x) (hb : base ≤ w.heap.size) : ∃ r', LogAt w' base g lg r' x' ∧ Below base w w' ∧ base ≤ w'.heap.size := by
  obtain ⟨r', h1, _⟩ := h.2
  have hl := hd.disk.lt
  have := h.1.below hl.1 hd.lgb (fun k hk => (hl.2.2 k hk).1) hb
  exact ⟨r', h1, this, Nat.le_trans hb this.size⟩
theorem TurnedL.refl (h : LogAt w base g lg r x) (hb : Below w.heap.size w w') : TurnedL base g lg r x w w' := ⟨.of_below hb, r, h.below hb, .inl rfl⟩
/-- The disk turned; the log's own block is as it was. -/
theorem LogAt.turned {s' : St} (h : LogAt w base g lg r x) (ht : Turned base g r s' w w') (hok : LS.ok { x with s := s' }) : TurnedL base g lg r { x with s := s' } w w' := by
  obtain ⟨ho, r', hd, hn⟩ := ht
  have hlt := lt_of_block h.blk
  refine ⟨.of_only ho, r', ⟨hd, blk_only ho h.blk h.lgg h.lgr, h.lgg, ?_, h.lgb, hok⟩, hn⟩
  rcases hn with rfl | rfl | ⟨k, rfl, hk⟩
  · exact h.lgr
  · simp
  · intro e; injection e with e; omega
/-- The log's own block was written. -/
theorem LogAt.written {x' : LS} (h : LogAt w base g lg r x) (hb : Box lg 1 w w') (hs : x'.s = x.s) (hblk : w'.heap[lg]? = some (.cells #[ptr g, .int .u32 (x'.gen : Int), .int .i64 (x'.kept : Int)] 113 (0, 0))) (hok : x'.ok) : TurnedL base g lg r x' w w' := by
  refine ⟨(OnlyL.of_below (Below.refl _ _)).box hb, r, ⟨?_, hblk, h.lgg, h.lgr, h.lgb, hok⟩, .inl rfl⟩
  rw [hs]
  refine h.disk.box hb h.noB (by have := h.lgg; omega) (fun k hk => ?_)
  rcases Nat.lt_trichotomy k lg with h1 | h1 | h1
  · exact .inl h1
  · exact absurd (h1 ▸ hk) h.lgr
  · exact .inr (by omega)
theorem LogAt.put {x' : LS} (h : LogAt w base g lg r x) (hb : Box lg 1 w w') (hs : x'.s = x.s) (hblk : w'.heap[lg]? = some (.cells #[ptr g, .int .u32 (x'.gen : Int), .int .i64 (x'.kept : Int)] 113 (0, 0))) (hok : x'.ok) : LogAt w' base g lg r x' := by
  refine ⟨?_, hblk, h.lgg, h.lgr, h.lgb, hok⟩
  rw [hs]
  refine h.disk.box hb h.noB (by have := h.lgg; omega) (fun k hk => ?_)
  rcases Nat.lt_trichotomy k lg with h1 | h1 | h1
  · exact .inl h1
  · exact absurd (h1 ▸ hk) h.lgr
  · exact .inr (by omega)
/-- The disk turned, then the log's own block was written. -/
theorem LogAt.both {s' : St} {x' : LS} {w3 w4 : World} (h : LogAt w base g lg r x) (ht : Turned base g r s' w w3) (hb : Box lg 1 w3 w4) (hs : x'.s = s') (hblk : w4.heap[lg]? = some (.cells #[ptr g, .int .u32 (x'.gen : Int), .int .i64 (x'.kept : Int)] 113 (0, 0))) (hok : x'.ok) : TurnedL base g lg r x' w w4 := by
  obtain ⟨ho, r', hd, hn⟩ := ht
  have hlt := lt_of_block h.blk
  have h3 := blk_only ho h.blk h.lgg h.lgr
  have hr' : r' ≠ some lg := by
    rcases hn with rfl | rfl | ⟨k, rfl, hk⟩
    · exact h.lgr
    · simp
    · intro e; injection e with e; omega
  have hN : ∀ k, lg ≤ k → k < lg + 1 → NoB w3 k := fun k h1 h2 => by
    obtain rfl : k = lg := by omega
    exact ⟨_, _, h3, by simp [noU8], by decide⟩
  refine ⟨(OnlyL.of_only ho).box hb, r', ⟨?_, hblk, h.lgg, hr', h.lgb, hok⟩, hn⟩
  rw [hs]
  refine hd.box hb hN (by have := h.lgg; omega) (fun k hk => ?_)
  rcases Nat.lt_trichotomy k lg with h1 | h1 | h1
  · exact .inl h1
  · exact absurd (h1 ▸ hk) hr'
  · exact .inr (by omega)
theorem TurnedL.trans {x1 x2 : LS} {w1 w2 : World} {r1 : Option Nat} (h1 : OnlyL g lg r w w1) (n1 : NxR r r1 w) (h2 : TurnedL base g lg r1 x2 w1 w2) : TurnedL base g lg r x2 w w2 := by
  obtain ⟨o2, r2, l2, n2⟩ := h2
  refine ⟨⟨o2.os.trans h1.os, o2.tape.trans h1.tape, o2.output.trans h1.output, Nat.le_trans h1.size o2.size, fun k hk a b c => ?_⟩, r2, l2, ?_⟩
  · rw [o2.block k (Nat.lt_of_lt_of_le hk h1.size) a b ?_, h1.block k hk a b c]
    rcases n1 with rfl | rfl | ⟨q, rfl, hq⟩
    · exact c
    · simp
    · intro e; injection e with e; omega
  · rcases n2 with rfl | rfl | ⟨q, rfl, hq⟩
    · exact n1
    · exact .inr (.inl rfl)
    · exact .inr (.inr ⟨q, rfl, Nat.le_trans h1.size hq⟩)
theorem log_cells (h : LogAt w base g lg r x) : (w.cell? ⟨lg, 0, none⟩ = some (ptr g) ∧ w.cell? ⟨lg, 1, none⟩ = some (.int .u32 (x.gen : Int)) ∧ w.cell? ⟨lg, 2, none⟩ = some (.int .i64 (x.kept : Int))) ∧ (w.frozen? ⟨lg, 0, none⟩ = false ∧ w.frozen? ⟨lg, 1, none⟩ = false ∧ w.frozen? ⟨lg, 2, none⟩ = false) := cells3 h.blk
end
end Go.Proofs.Ytkcehoejcklmfaa.L
