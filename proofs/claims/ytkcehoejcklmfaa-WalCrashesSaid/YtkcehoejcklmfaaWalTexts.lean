/- A row of texts of the call's own whose block holds texts alone: an append to it, and a disk beside it. -/
import Derived.Test.YtkcehoejcklmfaaWalNil
import Derived.Test.YtkcehoejcklmfaaWalRef3
import Derived.Test.YtkcehoejcklmfaaWalOps
import Derived.Test.YtkcehoejcklmfaaAppAll
namespace Go.Proofs.Ytkcehoejcklmfaa.L
open Go.RowKit O D K

/-- A row of texts, and nothing but texts in its block. -/
structure TxRow (w : World) (base : Nat) (A : Option Addr) (n c : Nat) (ts : List (List UInt8)) : Prop where
  own : w.ownsRow base 9 1 (.slice A n c) n (ts.map strV)
  all : ∀ g, blkOf A = some g → ∃ cs, w.heap[g]? = some (.cells cs 9 (0, 0)) ∧ ∀ v ∈ cs, ∃ s, v = .string s
theorem TxRow.nil (w : World) (base : Nat) : TxRow w base none 0 0 [] := ⟨World.ownsRow_nil _ _ _ _, fun g hg => by cases hg⟩
theorem TxRow.len {w : World} {base n c : Nat} {A : Option Addr} {ts : List (List UInt8)} (h : TxRow w base A n c ts) : ts.length = n := by have := h.own.1; simpa using this
theorem TxRow.kept {w w' : World} {base n c : Nat} {A : Option Addr} {ts : List (List UInt8)} (h : TxRow w base A n c ts) (hk : ∀ g, blkOf A = some g → w'.heap[g]? = w.heap[g]?) : TxRow w' base A n c ts := by
  refine ⟨⟨h.own.1, ?_⟩, fun g hg => ?_⟩
  · rcases h.own.2 with h0 | ⟨g, cap, cur, e, h1, h2, h3⟩
    · exact .inl h0
    · injection e with eA e2 e3
      refine .inr ⟨g, cap, cur, by rw [eA, e3], h1, ?_, h3⟩
      rw [hk g (by rw [eA]; rfl)]; exact h2
  · obtain ⟨cs, h1, h2⟩ := h.all g hg
    exact ⟨cs, (hk g hg).trans h1, h2⟩
theorem TxRow.lt {w : World} {base n c : Nat} {A : Option Addr} {ts : List (List UInt8)} (h : TxRow w base A n c ts) {g : Nat} (hg : blkOf A = some g) : base ≤ g ∧ g < w.heap.size := h.own.lt g (by rw [own_blk]; exact hg)
theorem TxRow.below {w w' : World} {base n c : Nat} {A : Option Addr} {ts : List (List UInt8)} (h : TxRow w base A n c ts) (hb : Below w.heap.size w w') : TxRow w' base A n c ts := h.kept fun g hg => hb.block g (h.lt hg).2
/-- A block of texts holds no byte. -/
theorem TxRow.ne {w : World} {base n c : Nat} {A : Option Addr} {ts : List (List UInt8)} (h : TxRow w base A n c ts) {b off : Nat} {k : IntKind} {x : Int} (hc : w.cell? ⟨b, off, none⟩ = some (.int k x)) : blkOf A ≠ some b := fun e => by
  obtain ⟨cs, h1, h2⟩ := h.all b e
  rw [cell_of_row w b off _ _ _ h1] at hc
  obtain ⟨s, hs⟩ := h2 _ (Array.mem_of_getElem? hc)
  cases hs
theorem TxRow.ne_blk {w : World} {base n c b : Nat} {A : Option Addr} {ts : List (List UInt8)} {cs : Array Value} {t : TypeId} {f : Nat × Nat} (h : TxRow w base A n c ts) (hb : w.heap[b]? = some (.cells cs t f)) (ht : t ≠ 9) : blkOf A ≠ some b := fun e => by
  obtain ⟨cs', h1, _⟩ := h.all b e
  rw [hb] at h1
  injection h1 with h1
  injection h1 with _ h1
  exact ht h1
theorem RdO.keepT {w w' : World} {g : Nat} {r : Option Nat} {x : Sl} {y : List UInt8} {base n c : Nat} {A : Option Addr} {ts : List (List UInt8)} (hx : RdO w g r x y) (h : TxRow w base A n c ts) (hg : w.grownBy w' (blkOf A)) : RdO w' g r x y := by
  refine ⟨⟨hx.1.1, fun hn => ?_⟩, hx.2⟩
  obtain ⟨b, off, e, hb, hc⟩ := hx.1.2 hn
  have h0 := hc 0 hn
  have hy : (bv y)[0]? = some (.int .u8 ((y[0]'(by simpa using hn)).toNat : Int)) := by simp [bv, List.getElem?_eq_getElem (show 0 < y.length by simpa using hn)]
  rw [hy] at h0
  have hne := h.ne h0
  exact ⟨b, off, e, Nat.lt_of_lt_of_le hb hg.size, fun j hj => (World.cell?_of_block (a := ⟨b, off + j, none⟩) (hg.block b hb (fun e => hne e.symm))).trans (hc j hj)⟩
theorem LogAt.keepT {w w' : World} {base0 g lg : Nat} {r : Option Nat} {x : LS} {base n c : Nat} {A : Option Addr} {ts : List (List UInt8)} (hx : LogAt w base0 g lg r x) (h : TxRow w base A n c ts) (hg : w.grownBy w' (blkOf A)) : LogAt w' base0 g lg r x := by
  obtain ⟨l, n0, n1, s0, s1, hl, e⟩ := hx.disk
  have ne1 : blkOf A ≠ some g := h.ne_blk hl.blk (by decide)
  have ne2 : blkOf A ≠ some lg := h.ne_blk hx.blk (by decide)
  refine ⟨⟨l, n0, n1, s0, s1, ⟨(hg.block g hl.lt (fun e => ne1 e.symm)).trans hl.blk, hl.lo, ?_, hl.off, RdO.keepT hl.rn0 h hg, RdO.keepT hl.rn1 h hg, RdO.keepT hl.rs0 h hg, RdO.keepT hl.rs1 h hg, hl.ok⟩, e⟩, (hg.block lg (lt_of_block hx.blk) (fun e => ne2 e.symm)).trans hx.blk, hx.lgg, hx.lgr, hx.lgb, hx.ok⟩
  refine ⟨hl.log.1, ?_⟩
  rcases hl.log.2 with h0 | ⟨q, cap, cur, e1, h1, h2, h3⟩
  · exact .inl h0
  · have ne3 : blkOf A ≠ some q := h.ne_blk h2 (by decide)
    exact .inr ⟨q, cap, cur, e1, h1, (hg.block q (lt_of_block h2) (fun e => ne3 e.symm)).trans h2, h3⟩
/-- The log's turns leave the texts. -/
theorem TxRow.turned {w w' : World} {base0 g lg : Nat} {r : Option Nat} {x : LS} {base n c : Nat} {A : Option Addr} {ts : List (List UInt8)} (h : TxRow w base A n c ts) (hx : LogAt w base0 g lg r x) (ho : OnlyL g lg r w w') : TxRow w' base A n c ts := by
  obtain ⟨l, n0, n1, s0, s1, hl, e⟩ := hx.disk
  refine h.kept fun q hq => ho.block q (h.lt hq).2 (fun e => ?_) (fun e => ?_) (fun e2 => ?_)
  · exact h.ne_blk hl.blk (by decide) (e ▸ hq)
  · exact h.ne_blk hx.blk (by decide) (e ▸ hq)
  · subst e
    rcases hl.log.2 with ⟨h0, _⟩ | ⟨q', cap, cur, e1, h1, h2, h3⟩
    · injection h0 with h0 _ _
      rw [h0] at e2
      cases e2
    · injection e1 with e1 _ _
      rw [e1] at e2
      injection e2 with e2
      have e2' : q' = q := e2
      subst e2'
      exact h.ne_blk h2 (by decide) hq
/-- The row as it is behind an append of one text (wpList_all's words). -/
def isTx (v : Value) : Prop := ∃ s, v = .string s
theorem TxRow.allOf {w : World} {base n c : Nat} {A : Option Addr} {ts : List (List UInt8)} (h : TxRow w base A n c ts) : AllOf isTx w 9 A := fun g hg => h.all g hg
theorem TxRow.app {w : World} {base n c : Nat} {A : Option Addr} {ts : List (List UInt8)} {t : List UInt8} (h : w.ownsRow base 9 1 (.slice A (n + 1) c) (n + 1) (ts.map strV ++ [strV t])) (ha : AllOf isTx w 9 A) : TxRow w base A (n + 1) c (ts ++ [t]) :=
  ⟨by rw [List.map_append]; exact h, fun g hg => ha g hg⟩
theorem txE : Elem Try.prog 25 9 1 16 (.string ByteArray.empty) := by
  obtain ⟨i, hi, h1, h2, h3⟩ := info_parts (show (Try.prog.info? 9).map (fun i => (i.zero, i.size, i.bytes)) = some (some (.string ByteArray.empty), 1, 16) by kernel_rfl)
  exact ⟨Try.underlying25, i, hi, h1, h2, h3, rfl, by omega⟩
theorem Rd.keepT {w w' : World} {size n : Nat} {A : Option Addr} {xs : List Value} {base m c : Nat} {B : Option Addr} {ts : List (List UInt8)} (hx : Rd w w.heap.size size A n xs) (hi : 0 < xs.length → ∃ k x, xs[0]? = some (.int k x)) (h : TxRow w base B m c ts) (hg : w.grownBy w' (blkOf B)) : Rd w' w'.heap.size size A n xs := by
  refine ⟨hx.1, fun hn => ?_⟩
  obtain ⟨b, off, e, hb, hc⟩ := hx.2 hn
  have h0 := hc 0 hn
  obtain ⟨k, x, hk⟩ := hi hn
  rw [hk] at h0
  have hne := h.ne h0
  exact ⟨b, off, e, Nat.lt_of_lt_of_le hb hg.size, fun j hj => (World.cell?_of_block (a := ⟨b, off + j, none⟩) (hg.block b hb (fun e => hne e.symm))).trans (hc j hj)⟩
theorem below_tx {w0 w w' : World} {base m c : Nat} {B : Option Addr} {ts : List (List UInt8)} (hb : Below base w0 w) (h : TxRow w base B m c ts) (hg : w.grownBy w' (blkOf B)) (hle : base ≤ w.heap.size) : Below base w0 w' :=
  hb.trans ⟨hg.os, hg.tape, hg.output, hg.size, fun i hi => hg.block i (by omega) (fun e => by have := (h.lt e.symm).1; omega)⟩
theorem LoopL.keepT {w : World} {base g lg : Nat} {r : Option Nat} {A : Option Addr} {n : Nat} {xs : List Value} {x : LS} {wr w' : World} {m c : Nat} {B : Option Addr} {ts : List (List UInt8)} (hl : LoopL w base g lg r A n xs x wr) (hi : 0 < xs.length → ∃ k x, xs[0]? = some (.int k x)) (h : TxRow wr base B m c ts) (hg : wr.grownBy w' (blkOf B)) : LoopL w base g lg r A n xs x w' :=
  ⟨hl.log.keepT h hg, ⟨Rd.keepT hl.row.1 hi h hg, hl.row.2⟩, below_tx hl.bel h hg hl.le, Nat.le_trans hl.le hg.size⟩
theorem ops_first {w : World} {B : Nat} : ∀ {l : List D.Op} {xs : List Value}, Reps (OpC w B) l xs → 0 < xs.length → ∃ k x, xs[0]? = some (.int k x)
  | [], xs, h, hp => by simp only [Reps] at h; subst h; simp at hp
  | o :: l, xs, h, hp => by
    obtain ⟨vs, ys, rfl, ⟨A, m, c, rfl, _⟩, _⟩ := h
    exact ⟨.u64, _, rfl⟩
theorem TxRow.only {w w' : World} {base base0 g n c : Nat} {r : Option Nat} {s : St} {A : Option Addr} {ts : List (List UInt8)} (h : TxRow w base A n c ts) (hd : DiskAt w base0 g r s) (ho : Only g none w w') : TxRow w' base A n c ts := by
  obtain ⟨l, n0, n1, s0, s1, hl, e⟩ := hd
  exact h.kept fun q hq => ho.block q (h.lt hq).2 (fun e => h.ne_blk hl.blk (by decide) (e ▸ hq)) (by simp)
theorem TxRow.take {w : World} {base n c : Nat} {A : Option Addr} {ts : List (List UInt8)} (h : TxRow w base A n c ts) {j : Nat} (hj : j ≤ n) : Rd w w.heap.size 1 A j ((ts.take j).map strV) := by
  have hl := h.len
  have hr := Rd.of_own h.own
  refine ⟨by simp; omega, fun hp => ?_⟩
  simp at hp
  obtain ⟨b, off, e, hb, hc⟩ := hr.2 (by simp; omega)
  refine ⟨b, off, e, hb, fun i hi => ?_⟩
  simp at hi
  rw [hc i (by simp; omega)]
  rw [List.map_take, List.getElem?_take_of_lt (by omega)]
end Go.Proofs.Ytkcehoejcklmfaa.L
