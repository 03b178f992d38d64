/- The calls of a log that there isn't. -/
import Derived.Test.YtkcehoejcklmfaaWalOpen
namespace Go.Proofs.Ytkcehoejcklmfaa.L
open Go.RowKit O D K

theorem nlet (n : Int) (w : World) : Calls Try.prog 52 #[.pointer none, .int .i64 n] w fun e w' => e = .returned (.tuple #[]) ∧ w = w' := by
  go_enter Try.func52, Try.ntmps52
  go_wp2_with fail
  go_end0
  exact ⟨rfl, rfl⟩
theorem nlsync (w : World) : Calls Try.prog 49 #[.pointer none] w fun e w' => e = .returned (.tuple #[]) ∧ w = w' := by
  go_enter Try.func49, Try.ntmps49
  go_wp2_with fail
  go_end0
  exact ⟨rfl, rfl⟩
theorem nladd (A : Option Addr) (n c : Nat) (w : World) : Calls Try.prog 46 #[.pointer none, .slice A n c] w fun e w' => e = .returned (.int .i64 6) ∧ w = w' := by
  go_enter Try.func46, Try.ntmps46
  go_wp2_with fail
  go_ret
  exact ⟨rfl, rfl⟩
theorem nladdKept (A : Option Addr) (n c : Nat) (w : World) : Calls Try.prog 53 #[.pointer none, .slice A n c] w fun e w' => e = .returned (.int .i64 6) ∧ w = w' := by
  go_enter Try.func53, Try.ntmps53
  go_wp2_with fail
  go_ret
  exact ⟨rfl, rfl⟩
theorem nlkeep (n : Int) (w : World) : Calls Try.prog 50 #[.pointer none, .int .i64 n] w fun e w' => e = .returned (.int .i64 6) ∧ w = w' := by
  go_enter Try.func50, Try.ntmps50
  go_wp2_with fail
  go_ret
  exact ⟨rfl, rfl⟩
theorem nlcheck (A : Option Addr) (n c : Nat) (w : World) : Calls Try.prog 47 #[.pointer none, .slice A n c] w fun e w' => e = .returned (.int .i64 6) ∧ w = w' := by
  go_enter Try.func47, Try.ntmps47
  go_wp2_with fail
  go_ret
  exact ⟨rfl, rfl⟩
theorem nlfree (w : World) : Calls Try.prog 51 #[.pointer none] w fun e w' => e = .returned (.int .i64 0) ∧ w = w' := by
  go_enter Try.func51, Try.ntmps51
  go_wp2_with fail
  go_ret
  exact ⟨rfl, rfl⟩
theorem nlkept (w : World) : Calls Try.prog 54 #[.pointer none] w fun e w' => e = .returned (.int .i64 0) ∧ w = w' := by
  go_enter Try.func54, Try.ntmps54
  go_wp2_with fail
  go_ret
  exact ⟨rfl, rfl⟩
theorem nlgen (w : World) : Calls Try.prog 45 #[.pointer none] w fun e w' => e = .returned (.int .u32 0) ∧ w = w' := by
  go_enter Try.func45, Try.ntmps45
  go_wp2_with fail
  go_ret
  exact ⟨rfl, rfl⟩

/-! ### a row that a log's calls let alone -/
def RdX (w : World) (g lg : Nat) (r : Option Nat) (size : Nat) (A : Option Addr) (n : Nat) (xs : List Value) : Prop := Rd w w.heap.size size A n xs ∧ (0 < xs.length → ∀ b, blkOf A = some b → b ≠ g ∧ b ≠ lg ∧ r ≠ some b)
theorem RdX.turned {w w' : World} {g lg : Nat} {r r' : Option Nat} {size n : Nat} {A : Option Addr} {xs : List Value} (h : RdX w g lg r size A n xs) (ho : OnlyL g lg r w w') (hn : NxR r r' w) : RdX w' g lg r' size A n xs := by
  refine ⟨⟨h.1.1, fun hp => ?_⟩, fun h0 b hb => ?_⟩
  · obtain ⟨b, off, e, hlt, hc⟩ := h.1.2 hp
    obtain ⟨h1, h2, h3⟩ := h.2 hp b (by rw [e]; rfl)
    exact ⟨b, off, e, Nat.lt_of_lt_of_le hlt ho.size, fun j hj => (World.cell?_of_block (a := ⟨b, off + j, none⟩) (ho.block b hlt h1 h2 h3)).trans (hc j hj)⟩
  · obtain ⟨h1, h2, h3⟩ := h.2 h0 b hb
    refine ⟨h1, h2, ?_⟩
    obtain ⟨q, off, e, hlt, -⟩ := h.1.2 h0
    rw [e] at hb
    have hq : q = b := by simpa [blkOf] using hb
    rcases hn with rfl | rfl | ⟨k, rfl, hk⟩
    · exact h3
    · simp
    · intro e; injection e with e; omega
theorem RdX.below {w w' : World} {g lg : Nat} {r : Option Nat} {size n : Nat} {A : Option Addr} {xs : List Value} (h : RdX w g lg r size A n xs) (hb : Below w.heap.size w w') : RdX w' g lg r size A n xs := h.turned (.of_below hb) (.inl rfl)
theorem RdX.fresh {w w1 : World} {g lg : Nat} {r : Option Nat} {A : Option Addr} {e size n c : Nat} {xs : List Value} (h : w1.ownsRow w.heap.size e size (.slice A n c) n xs) (hg : g < w.heap.size) (hl : lg < w.heap.size) (hr : ∀ k, r = some k → k < w.heap.size) : RdX w1 g lg r size A n xs := by
  refine ⟨Rd.of_own h, fun _ b hb => ?_⟩
  have := (h.lt b (by rw [own_blk]; exact hb)).1
  exact ⟨by omega, by omega, fun e => by have := hr b e; omega⟩
/-- A loop's head: the log x, the things to do, the arguments. -/
structure LoopL (w : World) (base g lg : Nat) (r : Option Nat) (A : Option Addr) (n : Nat) (xs : List Value) (x : LS) (wr : World) : Prop where
  log : LogAt wr base g lg r x
  row : RdX wr g lg r 3 A n xs
  bel : Below base w wr
  le : base ≤ wr.heap.size
theorem LoopL.turned {w : World} {base g lg : Nat} {r : Option Nat} {A : Option Addr} {n : Nat} {xs : List Value} {x x' : LS} {wr w' : World} (h : LoopL w base g lg r A n xs x wr) (t : TurnedL base g lg r x' wr w') : ∃ r', LoopL w base g lg r' A n xs x' w' := by
  obtain ⟨o, r', l, nx⟩ := t
  have hl := h.log.disk.lt
  have hb := o.below hl.1 h.log.lgb (fun k hk => (hl.2.2 k hk).1) h.le
  exact ⟨r', l, h.row.turned o nx, h.bel.trans hb, Nat.le_trans h.le o.size⟩
theorem LoopL.below {w : World} {base g lg : Nat} {r : Option Nat} {A : Option Addr} {n : Nat} {xs : List Value} {x : LS} {wr w' : World} (h : LoopL w base g lg r A n xs x wr) (b : Below wr.heap.size wr w') : LoopL w base g lg r A n xs x w' :=
  ⟨h.log.below b, h.row.below b, h.bel.trans (b.mono h.le), Nat.le_trans h.le b.size⟩
end Go.Proofs.Ytkcehoejcklmfaa.L
