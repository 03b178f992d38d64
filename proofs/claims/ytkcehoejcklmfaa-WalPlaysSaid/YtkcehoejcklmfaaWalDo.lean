/- What a step of law04's do does to the log, in plain Lean; what holds while do goes on. -/
import Derived.Test.YtkcehoejcklmfaaWalRefO
import Derived.Test.YtkcehoejcklmfaaWalLogFns
import Derived.Test.YtkcehoejcklmfaaWalNil
namespace Go.Proofs.Ytkcehoejcklmfaa.L
open Go.RowKit O D K

def LS.step (x : LS) (o : D.Op) : LS :=
  if o.kind % 8 = 2 then (x.addKept o.b).1 else if o.kind % 8 = 3 then (x.keep o.n).1 else if o.kind % 8 = 4 then x.let_ o.n else if o.kind % 8 = 5 then x.sync else if o.kind % 8 = 6 then (x.check o.b).1 else if o.kind % 8 = 7 then openS (x.s.crash o.n) else (x.add o.b).1
theorem openD_ok {s : St} (h : s.ok) : (openD s).ok := by
  have hsc := scan_le (l := s.log) (g := genS s) (by have := h.1; have := h.2; omega) (s.log.length + 1 - 0) 0 (Nat.zero_le _)
  rw [openD_take h hsc]
  refine ⟨h.1, ?_⟩
  have := h.2
  simp [St.log] at this ⊢
  omega
theorem LS.step_ok {x : LS} (h : x.ok) (hs : Small x.s) (o : D.Op) : (x.step o).ok := by
  unfold LS.step
  repeat' split
  · exact LS.addKept_ok h _
  · exact LS.keep_ok h _
  · exact LS.let_ok h _
  · exact LS.sync_ok h
  · exact LS.check_ok h _
  · have hc := D.crash_ok h.1 o.n
    have h2 := openD_ok hc
    refine ⟨h2, newTo_lt ?_ ?_ 2, ?_⟩
    · have := hs.2.2.1; simp [St.crash]; omega
    · have := hs.2.2.2; simp [St.crash]; omega
    · have := h2.2; simpa [openS] using this
  · exact LS.add_ok h _
theorem Small.app {s : St} (h : Small s) (b : List UInt8) : Small (s.app b).1 := by
  unfold St.app
  split <;> exact h
theorem Small.openD {s : St} (h : Small s) (ho : s.ok) : Small (openD s) := by
  have hsc := scan_le (l := s.log) (g := genS s) (by have := ho.1; have := ho.2; omega) (s.log.length + 1 - 0) 0 (Nat.zero_le _)
  rw [openD_take ho hsc]
  exact ⟨h.1, h.2.1, h.1, h.2.1⟩
theorem Small.stepL {x : LS} (h : Small x.s) (ho : x.ok) (o : D.Op) (hb : o.b.length ≤ 1000) : Small (x.step o).s := by
  unfold LS.step
  repeat' split
  · unfold LS.addKept
    split
    · exact h
    · exact Small.app h _
  · unfold LS.keep
    repeat' split
    all_goals exact h
  · exact h
  · exact ⟨h.1, h.2.1, h.1, h.2.1⟩
  · unfold LS.check
    repeat' split
    · exact h
    · exact h
    · have hfl : (frameL (x.gen + 1) o.b).length ≤ 1000000 := by
        have h10 := uintL_len10 o.b.length (by omega)
        rw [frameL_len, textL_len]
        omega
      have hw : Small (x.s.write ((x.gen + 1) % 2 : Nat) (frameL (x.gen + 1) o.b)).1 := by
        unfold St.write
        repeat' split
        · exact ⟨hfl, h.2.1, h.2.2⟩
        · exact ⟨h.1, hfl, h.2.2⟩
        · exact h
      exact ⟨hw.1, hw.2.1, hw.1, hw.2.1⟩
  · exact Small.openD ⟨h.2.2.1, h.2.2.2, h.2.2.1, h.2.2.2⟩ (D.crash_ok ho.1 _)
  · unfold LS.add
    split
    · exact h
    · exact Small.app h _

section
variable {w w' W W' : World} {base g lg : Nat} {r r' : Option Nat} {x y : LS} {v : Value}
theorem two_onlyL {A : Option Addr} {a b : List UInt8} (h : Two w g r A a b) (hl : LogAt w base g lg r x) (ho : OnlyL g lg r w w') (hn : NxR r r' w) : Two w' g r' A a b := by
  obtain ⟨k, off, e, hb, h0, h1⟩ := h.at_
  obtain ⟨h2, cs, fr, htag⟩ := h.2 k (by rw [e]; rfl)
  have hne : k ≠ lg := by
    rintro rfl
    rw [hl.blk] at htag
    injection htag with e1
    injection e1 with _ e2 _
    exact absurd e2 (by decide)
  have hblk := ho.block k hb h2.1 hne h2.2
  refine ⟨⟨by simp, fun _ => ⟨k, off, e, Nat.lt_of_lt_of_le hb ho.size, fun j hj => ?_⟩⟩, fun k' hk' => ?_⟩
  · rw [World.cell?_of_block (a := ⟨k, off + j, none⟩) hblk]
    obtain ⟨k2, off2, e2, _, hc⟩ := h.1.2 (by simp)
    rw [e] at e2
    injection e2 with e2
    injection e2 with e3 e4
    subst e3 e4
    exact hc j hj
  · rw [e] at hk'
    simp [blkOf] at hk'
    subst hk'
    refine ⟨⟨h2.1, ?_⟩, cs, fr, hblk.trans htag⟩
    rcases hn with rfl | rfl | ⟨q, rfl, hq⟩
    · exact h2.2
    · simp
    · intro e; injection e with e; omega
theorem LRefAt.onlyL (h : LRefAt w g r v y) (hl : LogAt w base g lg r x) (ho : OnlyL g lg r w w') (hn : NxR r r' w) : LRefAt w' g r' v y := by
  obtain ⟨A, c, A', c', e, h1, h2⟩ := h
  exact ⟨A, c, A', c', e, two_onlyL h1 hl ho hn, two_onlyL h2 hl ho hn⟩
theorem LogAt.box {N n : Nat} (h : LogAt w base g lg r x) (hb : Box N n w w') (hN : ∀ k, N ≤ k → k < N + n → NoB w k) (hg : g < N) (hl : lg < N ∨ N + n ≤ lg) (hr : ∀ k, r = some k → k < N ∨ N + n ≤ k) : LogAt w' base g lg r x :=
  ⟨h.disk.box hb hN (.inl hg) hr, (hb.block lg hl).trans h.blk, h.lgg, h.lgr, h.lgb, h.ok⟩
end
/-- What holds while do goes on: the log stands at lg', the boxes of do's own from N on are laid. -/
structure DoI (w : World) (base g lg : Nat) (r : Option Nat) (cs os : Array Value) (x : LS) (lg' : Nat) (r' : Option Nat) (W : World) : Prop where
  log : LogAt W base g lg' r' x
  only : OnlyL g lg r w W
  nx : NxR r r' w
  lt : g < w.heap.size ∧ lg < w.heap.size ∧ (∀ k, r = some k → k < w.heap.size)
  lg : lg' = lg ∨ w.heap.size + 3 ≤ lg'
  rn : ∀ k, r' = some k → k < w.heap.size ∨ w.heap.size + 3 ≤ k
  X : W.heap[w.heap.size]? = some (.cells cs 82 (0, 0))
  O : W.heap[w.heap.size + 1]? = some (.cells os 77 (0, 0))
  Z : W.heap[w.heap.size + 2]? = some (.cells #[.int .i64 0, str [], str [], .slice none 0 0, .slice none 0 0, .int .u32 0, .int .i64 0] 82 (0, 0))
/-- What a step leaves. -/
def LDoPost (base g lg : Nat) (r : Option Nat) (x' : LS) (w : World) (e : Ending) (w' : World) : Prop :=
  ∃ lg' r' v', e = .returned (.tuple #[ptr lg', v', .bool true]) ∧ LogAt w' base g lg' r' x' ∧ LRefAt w' g r' v' x' ∧ OnlyL g lg r w w' ∧ NxR r r' w ∧ (lg' = lg ∨ w.heap.size ≤ lg')
section
variable {w W W' : World} {base g lg lg' : Nat} {r r' : Option Nat} {cs os : Array Value} {x x' y : LS} {v : Value}
theorem DoI.start_below (w : World) (cs os : Array Value) : Below w.heap.size w (((w.alloc (.cells cs 82)).alloc (.cells os 77)).alloc (.cells #[.int .i64 0, str [], str [], .slice none 0 0, .slice none 0 0, .int .u32 0, .int .i64 0] 82)) :=
  ((Below.refl _ _).alloc (Nat.le_refl _) _).alloc (by simp) _ |>.alloc (by simp; omega) _
theorem DoI.start (h : LogAt w base g lg r x) (cs os : Array Value) : DoI w base g lg r cs os x lg r (((w.alloc (.cells cs 82)).alloc (.cells os 77)).alloc (.cells #[.int .i64 0, str [], str [], .slice none 0 0, .slice none 0 0, .int .u32 0, .int .i64 0] 82)) := by
  have b : Below w.heap.size w (((w.alloc (.cells cs 82)).alloc (.cells os 77)).alloc (.cells #[.int .i64 0, str [], str [], .slice none 0 0, .slice none 0 0, .int .u32 0, .int .i64 0] 82)) :=
    ((Below.refl _ _).alloc (Nat.le_refl _) _).alloc (by simp) _ |>.alloc (by simp; omega) _
  refine ⟨h.below b, .of_below b, .inl rfl, ⟨h.disk.lt.2.1, lt_of_block h.blk, fun k hk => (h.disk.lt.2.2 k hk).2⟩, .inl rfl, fun k hk => .inl (h.disk.lt.2.2 k hk).2, blk_alloc (blk_alloc (blk_new w _) _) _, ?_, ?_⟩
  · have := blk_alloc (blk_new (w.alloc (.cells cs 82)) (.cells os 77)) (.cells #[.int .i64 0, str [], str [], .slice none 0 0, .slice none 0 0, .int .u32 0, .int .i64 0] 82)
    simpa using this
  · have := blk_new ((w.alloc (.cells cs 82)).alloc (.cells os 77)) (.cells #[.int .i64 0, str [], str [], .slice none 0 0, .slice none 0 0, .int .u32 0, .int .i64 0] 82)
    simpa using this
theorem DoI.size (h : DoI w base g lg r cs os x lg' r' W) : w.heap.size + 3 ≤ W.heap.size := lt_of_block h.Z
theorem DoI.next (h : DoI w base g lg r cs os x lg' r' W) (b : Below W.heap.size W W') : DoI w base g lg r cs os x lg' r' W' :=
  ⟨h.log.below b, h.only.then_ b, h.nx, h.lt, h.lg, h.rn, blk_old b h.X, blk_old b h.O, blk_old b h.Z⟩
/-- The log turned. -/
theorem DoI.turned (h : DoI w base g lg r cs os x lg r W) (t : TurnedL base g lg r x' W W') : ∃ r'', DoI w base g lg r cs os x' lg r'' W' ∧ OnlyL g lg r W W' ∧ NxR r r'' W := by
  obtain ⟨o, r'', l, n⟩ := t
  have hs := h.size
  have hblk : ∀ k, w.heap.size ≤ k → k < w.heap.size + 3 → W'.heap[k]? = W.heap[k]? := fun k h1 h2 => o.block k (by omega) (by have := h.lt.1; omega) (by have := h.lt.2.1; omega) (fun e => by have := h.lt.2.2 k e; omega)
  refine ⟨r'', ⟨l, ⟨o.os.trans h.only.os, o.tape.trans h.only.tape, o.output.trans h.only.output, Nat.le_trans h.only.size o.size, fun k hk a b c => (o.block k (Nat.lt_of_lt_of_le hk h.only.size) a b c).trans (h.only.block k hk a b c)⟩, ?_, h.lt, .inl rfl, ?_, (hblk _ (by omega) (by omega)).trans h.X, (hblk _ (by omega) (by omega)).trans h.O, (hblk _ (by omega) (by omega)).trans h.Z⟩, o, n⟩
  · rcases n with e | e | ⟨q, e, hq⟩
    · exact .inl e
    · exact .inr (.inl e)
    · exact .inr (.inr ⟨q, e, by omega⟩)
  · intro k hk
    rcases n with e | e | ⟨q, e, hq⟩
    · exact .inl (h.lt.2.2 k (by rw [← e]; exact hk))
    · rw [e] at hk; cases hk
    · rw [e] at hk; injection hk with hk; exact .inr (by omega)
theorem heap_set7 {W : World} {b : Nat} {cs : Array Value} {T : TypeId} (hb : W.heap[b]? = some (.cells cs T (0, 0))) (h7 : cs.size = 7) (v0 v1 v2 v3 v4 v5 v6 : Value) :
    (((((((W.setCell ⟨b, 0, none⟩ v0).setCell ⟨b, 1, none⟩ v1).setCell ⟨b, 2, none⟩ v2).setCell ⟨b, 3, none⟩ v3).setCell ⟨b, 4, none⟩ v4).setCell ⟨b, 5, none⟩ v5).setCell ⟨b, 6, none⟩ v6).heap[b]? = some (.cells #[v0, v1, v2, v3, v4, v5, v6] T (0, 0)) := by
  rw [row_setCell (row_setCell (row_setCell (row_setCell (row_setCell (row_setCell (row_setCell hb))))))]
  match cs, h7 with
  | ⟨[a, b, c, d, e, f, g]⟩, _ => rfl
/-- The reference's log's box has been written. -/
theorem DoI.boxX {cs' : Array Value} (h : DoI w base g lg r cs os x lg' r' W) (b : Box w.heap.size 1 W W') (hcs : ∀ v ∈ cs, noU8 v = true) (hb : W'.heap[w.heap.size]? = some (.cells cs' 82 (0, 0))) : DoI w base g lg r cs' os x lg' r' W' := by
  have hN : ∀ k, w.heap.size ≤ k → k < w.heap.size + 1 → NoB W k := fun k h1 h2 => by
    obtain rfl : k = w.heap.size := by omega
    exact ⟨_, _, h.X, hcs, by decide⟩
  refine ⟨h.log.box b hN h.lt.1 ?_ (fun k hk => ?_), ⟨b.os.trans h.only.os, b.tape.trans h.only.tape, b.output.trans h.only.output, by rw [b.size]; exact h.only.size, fun k hk h1 h2 h3 => (b.block k (.inl hk)).trans (h.only.block k hk h1 h2 h3)⟩, h.nx, h.lt, h.lg, h.rn, hb, (b.block _ (.inr (by omega))).trans h.O, (b.block _ (.inr (by omega))).trans h.Z⟩
  · rcases h.lg with e | e
    · exact .inl (by rw [e]; exact h.lt.2.1)
    · exact .inr (by omega)
  · rcases h.rn k hk with e | e
    · exact .inl e
    · exact .inr (by omega)
theorem LRefAt.box {N n : Nat} (h : LRefAt W g r v x) (hb : Box N n W W') (hN : ∀ k, N ≤ k → k < N + n → NoB W k) : LRefAt W' g r v x := by
  obtain ⟨A, c, A', c', e, h1, h2⟩ := h
  exact ⟨A, c, A', c', e, h1.box hb hN, h2.box hb hN⟩
theorem DoI.putX (h : DoI w base g lg r cs os x lg' r' W) (h7 : cs.size = 7) (hcs : ∀ v ∈ cs, noU8 v = true) {A A' : Option Addr} {c c' : Nat} (hv : LRefAt W g r' (.agg (lc y A c A' c')) y) :
    DoI w base g lg r (lc y A c A' c') os x lg' r' (((((((W.setCell ⟨w.heap.size, 0, none⟩ (.int .i64 (y.s.room : Int))).setCell ⟨w.heap.size, 1, none⟩ (str y.s.sure)).setCell ⟨w.heap.size, 2, none⟩ (str y.s.rest)).setCell ⟨w.heap.size, 3, none⟩ (.slice A 2 c)).setCell ⟨w.heap.size, 4, none⟩ (.slice A' 2 c')).setCell ⟨w.heap.size, 5, none⟩ (.int .u32 (y.gen : Int))).setCell ⟨w.heap.size, 6, none⟩ (.int .i64 (y.kept : Int))) ∧
    LRefAt (((((((W.setCell ⟨w.heap.size, 0, none⟩ (.int .i64 (y.s.room : Int))).setCell ⟨w.heap.size, 1, none⟩ (str y.s.sure)).setCell ⟨w.heap.size, 2, none⟩ (str y.s.rest)).setCell ⟨w.heap.size, 3, none⟩ (.slice A 2 c)).setCell ⟨w.heap.size, 4, none⟩ (.slice A' 2 c')).setCell ⟨w.heap.size, 5, none⟩ (.int .u32 (y.gen : Int))).setCell ⟨w.heap.size, 6, none⟩ (.int .i64 (y.kept : Int))) g r' (.agg (lc y A c A' c')) y := by
  have hb : Box w.heap.size 1 W (((((((W.setCell ⟨w.heap.size, 0, none⟩ (.int .i64 (y.s.room : Int))).setCell ⟨w.heap.size, 1, none⟩ (str y.s.sure)).setCell ⟨w.heap.size, 2, none⟩ (str y.s.rest)).setCell ⟨w.heap.size, 3, none⟩ (.slice A 2 c)).setCell ⟨w.heap.size, 4, none⟩ (.slice A' 2 c')).setCell ⟨w.heap.size, 5, none⟩ (.int .u32 (y.gen : Int))).setCell ⟨w.heap.size, 6, none⟩ (.int .i64 (y.kept : Int))) :=
    (((((((Box.refl _ _ _).setCell (by omega) (by omega) _).setCell (by omega) (by omega) _).setCell (by omega) (by omega) _).setCell (by omega) (by omega) _).setCell (by omega) (by omega) _).setCell (by omega) (by omega) _).setCell (by omega) (by omega) _
  have hN : ∀ k, w.heap.size ≤ k → k < w.heap.size + 1 → NoB W k := fun k h1 h2 => by
    obtain rfl : k = w.heap.size := by omega
    exact ⟨_, _, h.X, hcs, by decide⟩
  exact ⟨h.boxX hb hcs (heap_set7 h.X h7 _ _ _ _ _ _ _), hv.box hb hN⟩
/-- The boxes have been written; the step ends. -/
theorem DoI.fin (h : DoI w base g lg r cs os x lg' r' W) (b : Box w.heap.size 3 W W') (hv : LRefAt W g r' v x) (hcs : ∀ v ∈ cs, noU8 v = true) (hos : ∀ v ∈ os, noU8 v = true) : LDoPost base g lg r x w (.returned (.tuple #[ptr lg', v, .bool true])) W' := by
  have hN := noB3 h.X h.O h.Z hcs hos (by simp [noU8]) (by decide) (by decide) (by decide)
  refine ⟨lg', r', v, rfl, h.log.box b hN h.lt.1 ?_ h.rn, ?_, ?_, h.nx, ?_⟩
  · rcases h.lg with e | e
    · exact .inl (by rw [e]; exact h.lt.2.1)
    · exact .inr e
  · obtain ⟨A, c, A', c', e, h1, h2⟩ := hv
    exact ⟨A, c, A', c', e, h1.box b hN, h2.box b hN⟩
  · refine ⟨b.os.trans h.only.os, b.tape.trans h.only.tape, b.output.trans h.only.output, by rw [b.size]; exact h.only.size, fun k hk h1 h2 h3 => (b.block k (.inl hk)).trans (h.only.block k hk h1 h2 h3)⟩
  · rcases h.lg with e | e
    · exact .inl e
    · exact .inr (by omega)
end
end Go.Proofs.Ytkcehoejcklmfaa.L
