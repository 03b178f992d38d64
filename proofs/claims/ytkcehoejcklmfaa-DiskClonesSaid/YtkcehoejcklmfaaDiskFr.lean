/- Two disks side by side: one turns, the other stays. -/
import Derived.Test.YtkcehoejcklmfaaDiskSame2
namespace Go.Proofs.Ytkcehoejcklmfaa.K
open Go.RowKit D O

/-- Nothing that was there has turned but the disk at G, its log's row r, and the box bx. -/
structure Fr3 (G : Nat) (r : Option Nat) (bx : Nat) (w w' : World) : Prop where
  size : w.heap.size ≤ w'.heap.size
  block : ∀ k, k < w.heap.size → k ≠ G → r ≠ some k → k ≠ bx → w'.heap[k]? = w.heap[k]?
theorem Fr3.refl (G : Nat) (r : Option Nat) (bx : Nat) (w : World) : Fr3 G r bx w w := ⟨Nat.le_refl _, fun _ _ _ _ _ => rfl⟩
theorem Fr3.below {G : Nat} {r : Option Nat} {bx : Nat} {w w1 w2 : World} (h : Fr3 G r bx w w1) (b : Below w1.heap.size w1 w2) : Fr3 G r bx w w2 :=
  ⟨Nat.le_trans h.size b.size, fun k hk h1 h2 h3 => (b.block k (Nat.lt_of_lt_of_le hk h.size)).trans (h.block k hk h1 h2 h3)⟩
theorem Fr3.round {G : Nat} {r0 r : Option Nat} {bx : Nat} {w9 w w1 w2 w4 w5 : World} (h : Fr3 G r0 bx w9 w) (hr : r = r0 ∨ r = none ∨ ∃ q, r = some q ∧ w9.heap.size ≤ q) (b1 : Below w.heap.size w w1) (o : Only G r w1 w2) (b3 : Below w2.heap.size w2 w4) (hx : Box bx 1 w4 w5) : Fr3 G r0 bx w9 w5 := by
  have s1 := b1.size
  have s2 := o.size
  have s3 := b3.size
  have s0 := h.size
  refine ⟨by rw [hx.size]; omega, fun k hk h1 h2 h3 => ?_⟩
  have hrk : r ≠ some k := by
    rcases hr with rfl | rfl | ⟨q, rfl, hq⟩
    · exact h2
    · simp
    · intro e; injection e with e; omega
  rw [hx.block k (by omega), b3.block k (by omega), o.block k (by omega) h1 hrk, b1.block k (by omega), h.block k hk h1 h2 h3]
theorem Lies.fr3 {w w' : World} {base g G bx : Nat} {r : Option Nat} {l n0 n1 s0 s1 : Sl} {s : St} (h : Lies w base g l n0 n1 s0 s1 s) (ho : Fr3 G r bx w w') (h1 : g ≠ G ∧ r ≠ some g ∧ g ≠ bx) (h3 : ∀ k, blkOf l.a = some k → k ≠ G ∧ r ≠ some k ∧ k ≠ bx)
    (hrow : ∀ x : Sl, (x = n0 ∨ x = n1 ∨ x = s0 ∨ x = s1) → 0 < x.n → ∀ b, blkOf x.a = some b → b ≠ G ∧ r ≠ some b) (hbx : NoB w bx) : Lies w' base g l n0 n1 s0 s1 s := by
  have rd : ∀ (x : Sl) (y : List UInt8), (x = n0 ∨ x = n1 ∨ x = s0 ∨ x = s1) → RdO w g (blkOf l.a) x y → RdO w' g (blkOf l.a) x y := fun x y hx q => by
    refine ⟨⟨q.1.1, fun hp => ?_⟩, q.2⟩
    have hxn : 0 < x.n := by have := q.1.1; simp at this hp; omega
    obtain ⟨b, off, e, hlt, hc⟩ := q.1.2 hp
    have hb : blkOf x.a = some b := by rw [e]; rfl
    have e1 := hrow x hx hxn b hb
    have e2 := Rd.apart q.1 hbx hxn hb
    exact ⟨b, off, e, Nat.lt_of_lt_of_le hlt ho.size, fun j hj => (World.cell?_of_block (a := ⟨b, off + j, none⟩) (ho.block b hlt e1.1 e1.2 e2)).trans (hc j hj)⟩
  refine ⟨(ho.block g h.lt h1.1 h1.2.1 h1.2.2).trans h.blk, h.lo, ?_, h.off, rd _ _ (by simp) h.rn0, rd _ _ (by simp) h.rn1, rd _ _ (by simp) h.rs0, rd _ _ (by simp) h.rs1, h.ok⟩
  refine ⟨h.log.1, ?_⟩
  rcases h.log.2 with h0 | ⟨q, cap, cur, e1, e2, e3, e4⟩
  · exact .inl h0
  · have hb : blkOf l.a = some q := by rw [← own_blk l.a l.n l.c, e1]; rfl
    have hq := h3 q hb
    exact .inr ⟨q, cap, cur, e1, e2, (ho.block q (lt_of_block e3) hq.1 hq.2.1 hq.2.2).trans e3, e4⟩
theorem Two.re {w : World} {g G : Nat} {r r' : Option Nat} {A : Option Addr} {a b : List UInt8} (h : Two w g r A a b) (hG : ∃ cs t fr, w.heap[G]? = some (.cells cs t fr) ∧ t ≠ 9) (hr : ∀ k, r' = some k → ∃ cs t fr, w.heap[k]? = some (.cells cs t fr) ∧ t ≠ 9) : Two w G r' A a b := by
  refine ⟨h.1, fun k hk => ?_⟩
  obtain ⟨_, cs, fr, htag⟩ := h.2 k hk
  have ne : ∀ q, (∃ cs t fr, w.heap[q]? = some (.cells cs t fr) ∧ t ≠ 9) → k ≠ q := by
    rintro q ⟨cs', t, fr', e, ht⟩ rfl
    rw [htag] at e
    injection e with e
    injection e with _ e _
    exact ht e.symm
  exact ⟨⟨ne G hG, fun e => ne k (hr k e) rfl⟩, cs, fr, htag⟩
theorem Lies.tags {w : World} {base g : Nat} {l n0 n1 s0 s1 : Sl} {s : St} (h : Lies w base g l n0 n1 s0 s1 s) : (∃ cs t fr, w.heap[g]? = some (.cells cs t fr) ∧ t ≠ 9) ∧ ∀ k, blkOf l.a = some k → ∃ cs t fr, w.heap[k]? = some (.cells cs t fr) ∧ t ≠ 9 := by
  refine ⟨⟨_, _, _, h.blk, by decide⟩, fun k hk => ?_⟩
  rcases h.log.2 with ⟨h0, _⟩ | ⟨q, cap, cur, e1, e2, e3, e4⟩
  · injection h0 with h0
    rw [h0] at hk
    cases hk
  · have hb : blkOf l.a = some q := by rw [← own_blk l.a l.n l.c, e1]; rfl
    rw [hk] at hb
    injection hb with hb
    subst hb
    exact ⟨_, _, _, e3, by decide⟩
theorem Lies.weak {w : World} {base base' g : Nat} {l n0 n1 s0 s1 : Sl} {s : St} (h : Lies w base g l n0 n1 s0 s1 s) (hb : base' ≤ base) : Lies w base' g l n0 n1 s0 s1 s :=
  ⟨h.blk, Nat.le_trans hb h.lo, own_more h.log hb, h.off, h.rn0, h.rn1, h.rs0, h.rs1, h.ok⟩

/-- The second loop's beginning: the clone c turns; its log's row lies where c was made. -/
theorem Loop.second {w wr w6 w8 w9 : World} {g bx n n9 c9 e : Nat} {r : Option Nat} {A A9 : Option Addr} {xs ys : List Value} {S : St} {lc n0 n1 s0 s1 : Sl} (L8 : Loop w w.heap.size g bx r A n xs S S w8) (hbx : bx < wr.heap.size) (hw : w.heap.size ≤ wr.heap.size)
    (hlc : Lies w6 wr.heap.size wr.heap.size lc n0 n1 s0 s1 S) (hlc8 : Lies w8 wr.heap.size wr.heap.size lc n0 n1 s0 s1 S) (h68 : w6.heap.size ≤ w8.heap.size) (b9 : Below w8.heap.size w8 w9) (own : w9.ownsRow w8.heap.size e 3 (.slice A9 n9 c9) n9 ys) :
    Loop w w.heap.size wr.heap.size bx (blkOf lc.a) A9 n9 ys S S w9 := by
  obtain ⟨Z, c, Z', c', h1, h2, h3⟩ := L8.box
  have s8 := L8.below.size
  have hlt := hlc.lt
  obtain ⟨t1, t2⟩ := hlc8.tags
  have hrow := hlc.row
  refine ⟨L8.below.trans (b9.mono s8), ⟨lc, n0, n1, s0, s1, (hlc8.weak hw).below b9, rfl⟩, ⟨Z, c, Z', c', blk_old b9 h1, (h2.re t1 t2).below b9, (h3.re t1 t2).below b9⟩, L8.tok, by omega, fun e => by have := (hrow _ e).1; omega, L8.bxb, Rd.of_own own, fun hp b hb => ?_⟩
  have hn : 0 < n9 := by
    have := own.1
    rcases Nat.eq_zero_or_pos n9 with h | h
    · subst h; omega
    · exact h
  obtain ⟨q, rfl, hq1, hq2⟩ := own_at own hn
  simp [blkOf] at hb
  subst hb
  exact ⟨by omega, fun e => by have := (hrow _ e).2; omega, by omega⟩
/-- The disk d and the clone 'was' behind the second loop. -/
theorem beside_end {wr w6 w7 w9 wz : World} {base g bx : Nat} {ld lc lx n0 n1 s0 s1 : Sl} {S : St} (hld : Lies wr base g ld n0 n1 s0 s1 S) (hlc : Lies w6 wr.heap.size wr.heap.size lc n0 n1 s0 s1 S) (hlx : Lies w7 w6.heap.size w6.heap.size lx n0 n1 s0 s1 S)
    (hld9 : Lies w9 base g ld n0 n1 s0 s1 S) (hlx9 : Lies w9 w6.heap.size w6.heap.size lx n0 n1 s0 s1 S) (hgx : g ≠ bx) (hrx : blkOf ld.a ≠ some bx) (hbx : bx < wr.heap.size) (hN : NoB w9 bx) (fr : Fr3 wr.heap.size (blkOf lc.a) bx w9 wz) :
    Lies wz base g ld n0 n1 s0 s1 S ∧ Lies wz w6.heap.size w6.heap.size lx n0 n1 s0 s1 S := by
  have hrc := hlc.row
  have hlt := hlc.lt
  have hd := hld.lt
  have rows : ∀ x : Sl, (x = n0 ∨ x = n1 ∨ x = s0 ∨ x = s1) → 0 < x.n → ∀ b, blkOf x.a = some b → b ≠ wr.heap.size ∧ blkOf lc.a ≠ some b := by
    intro x hx hn b hb
    have hblt : b < wr.heap.size := by
      have : ∃ y, RdO wr g (blkOf ld.a) x y := by
        rcases hx with rfl | rfl | rfl | rfl
        · exact ⟨_, hld.rn0⟩
        · exact ⟨_, hld.rn1⟩
        · exact ⟨_, hld.rs0⟩
        · exact ⟨_, hld.rs1⟩
      obtain ⟨y, q⟩ := this
      have hl : y.length = x.n := by have := q.1.1; simp at this; omega
      obtain ⟨a, ea, hlt⟩ := Rd.blk_lt q.1 (by simp; omega)
      rw [ea] at hb
      simp [blkOf] at hb
      omega
    exact ⟨by omega, fun e => by have := (hrc _ e).1; omega⟩
  refine ⟨hld9.fr3 fr ⟨by omega, fun e => by have := (hrc _ e).1; omega, hgx⟩ (fun k hk => ⟨by have := (hld.row k hk).2; omega, fun e => by have := (hrc _ e).1; have := (hld.row k hk).2; omega, fun e => hrx (e ▸ hk)⟩) rows hN, hlx9.fr3 fr ⟨by omega, fun e => by have := (hrc _ e).2; omega, by omega⟩ (fun k hk => ?_) rows hN⟩
  have := (hlx.row k hk).1
  exact ⟨by omega, fun e => by have := (hrc _ e).2; omega, by omega⟩
end Go.Proofs.Ytkcehoejcklmfaa.K
