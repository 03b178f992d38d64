/- What WaitsMore needs: one wait more, in plain Lean and in memory; an append as the step of a plan. -/
import Derived.Test.YtpdfhbgemmpleaaWtOpen
import Derived.Test.YtpdfhbgemmpleaaSchedP
namespace Go.Proofs.Ytpdfhbgemmpleaa.T
open Go.RowKit

theorem roundP_same {L : Gr} {a b : Int} (h : roundP L a b) (y : Int) : roundP L b y ↔ roundP L a y :=
  ⟨fun k => ⟨h.1.trans k.1, k.2.trans h.2⟩, fun k => ⟨h.2.trans k.1, k.2.trans h.1⟩⟩
theorem round_same {L : Gr} {a b : Int} {l m : List Int} (hl : IsRow (roundP L a) l) (hb : b ∈ l) (hm : IsRow (roundP L b) m) : m = l := hm.uniq (hl.imp fun x => (roundP_same ((hl.mem b).1 hb) x).symm)
/-- One wait more for somebody. -/
def moreP (a b : Int) (L : Gr) : Gr := L.map fun p => if p.1 = a then (p.1, p.2 ++ [b]) else p
theorem moreP_snoc (a b : Int) (L : Gr) (p : Int × List Int) : moreP a b (L ++ [p]) = moreP a b L ++ [if p.1 = a then (p.1, p.2 ++ [b]) else p] := by simp [moreP]
theorem moreP_for {a b : Int} (x y : Int) : ∀ {L : Gr}, y ∈ forE L x → y ∈ forE (moreP a b L) x
  | [], h => h
  | p :: L, h => by
    show y ∈ forE ((if p.1 = a then (p.1, p.2 ++ [b]) else p) :: moreP a b L) x
    unfold forE at h ⊢
    by_cases e : p.1 = x
    · rw [if_pos e] at h
      by_cases e2 : p.1 = a
      · rw [if_pos e2]
        show y ∈ if p.1 = x then p.2 ++ [b] else _
        rw [if_pos e, List.mem_append]
        exact .inl h
      · rw [if_neg e2, if_pos e]; exact h
    · rw [if_neg e] at h
      have h1 : (if p.1 = a then (p.1, p.2 ++ [b]) else p).1 = p.1 := by split <;> rfl
      rw [h1, if_neg e]
      exact moreP_for x y h
theorem moreP_round {a b : Int} {L : Gr} {x y : Int} (h : roundP L x y) : roundP (moreP a b L) x y := ⟨h.1.mono (fun _ _ => moreP_for _ _), h.2.mono (fun _ _ => moreP_for _ _)⟩
theorem moreP_ok {a b : Int} {L : Gr} (h : RowOk L) (hb : wf b) : GOk (moreP a b L) := by
  refine ⟨by have := h.n; simp [moreP]; omega, ?_, ?_, ?_⟩ <;> intro p hp <;> simp only [moreP, List.mem_map] at hp <;> obtain ⟨q, hq, rfl⟩ := hp
  · have := h.m q hq
    split
    · simp; omega
    · omega
  · have := h.w q hq
    split <;> exact this
  · intro y hy
    split at hy
    · simp at hy
      rcases hy with hy | rfl
      · exact h.e q hq y hy
      · exact hb
    · exact h.e q hq y hy
/-- A wait in a row that grows: its numbers lie in old memory, or in a row of the call's own. -/
def WtO (w0 w : World) (p : Int × List Int) (vs : List Value) : Prop := ∃ A n c, vs = [.int .i64 p.1, .slice A n c] ∧ (NRow w0 A n c p.2 ∨ w.ownsRow w0.heap.size 3 1 (.slice A n c) n (iv p.2))
theorem WtO.next {w0 w W : World} (b : Below w.heap.size w W) : ∀ (p : Int × List Int) (vs : List Value), WtO w0 w p vs → WtO w0 W p vs := by
  rintro p vs ⟨A, n, c, e, h | h⟩
  · exact ⟨A, n, c, e, .inl h⟩
  · exact ⟨A, n, c, e, .inr (own_below h b)⟩
theorem WtO.grown {w0 w W : World} {base n : Nat} {v : Value} {xs : List Value} (h : w.ownsRow base 29 2 v n xs) (g : w.grownBy W v.ownBlock) : ∀ (p : Int × List Int) (vs : List Value), WtO w0 w p vs → WtO w0 W p vs := by
  rintro p vs ⟨A, n, c, e, k | k⟩
  · exact ⟨A, n, c, e, .inl k⟩
  · exact ⟨A, n, c, e, .inr (k.kept g (own_ne k h (by decide)))⟩
theorem WtO.to {w0 w : World} (b : Below w0.heap.size w0 w) : ∀ (p : Int × List Int) (vs : List Value), WtO w0 w p vs → WtC w p vs := by
  rintro p vs ⟨A, n, c, e, k | k⟩
  · exact ⟨A, n, c, e, k.next b⟩
  · exact ⟨A, n, c, e, NRow.own k⟩
theorem own_setW {w : World} {base e size n b j : Nat} {v : Value} {xs : List Value} (h : w.ownsRow base e size v n xs) (u : Value) (hne : v.ownBlock ≠ some b) : (w.setCell ⟨b, j, none⟩ u).ownsRow base e size v n xs :=
  h.kept (row := some b) ⟨rfl, rfl, rfl, by simp, fun i _ hi => Below.heap_setCell _ _ _ _ (fun e => hi (by rw [e]))⟩ (.inr hne)
theorem rd_cell1 {W : World} {b : Nat} {v : Value} {e : TypeId} (h : W.heap[b]? = some (.cells #[v] e (0, 0))) : Rd W W.heap.size 1 (some ⟨b, 0, none⟩) 1 [v] :=
  ⟨rfl, fun _ => ⟨b, 0, rfl, (Array.getElem?_eq_some_iff.1 h).1, fun j hj => by
    have : j = 0 := by simpa using hj
    subst this
    rw [World.cell?_of_block (w := W) rfl]
    simp [World.cell?, h]⟩⟩
theorem box_set {w : World} {b i : Nat} {cs : Array Value} {T : TypeId} {fr : Nat × Nat} (hb : w.heap[b]? = some (.cells cs T fr)) (v : Value) : (w.setCell ⟨b, i, none⟩ v).heap[b]? = some (.cells (cs.setIfInBounds i v) T fr) := by
  unfold World.setCell
  simp [hb, Array.getElem?_modify]
theorem dec_snoc (x y : Int) (l : List Int) : decide (x ∈ l ++ [y]) = (decide (x ∈ l) || (x == y)) := by
  by_cases h : x ∈ l <;> by_cases h2 : x = y <;> simp [h, h2]
theorem KB.grown {bs : List Nat} {w w' : World} {base e size n : Nat} {v : Value} {xs : List Value} (h : w.ownsRow base e size v n xs) (g : w.grownBy w' v.ownBlock) (hb : ∀ b ∈ bs, b < base) (hbase : base ≤ w.heap.size) : KB bs w w' :=
  fun b hx => g.block b (Nat.lt_of_lt_of_le (hb b hx) hbase) (fun e => by have := (h.lt _ e.symm).1; have := hb b hx; omega)
theorem Below.app {w0 w w' : World} {base e size n : Nat} {v : Value} {xs : List Value} (hb : Below base w0 w) (h : w.ownsRow base e size v n xs) (g : w.grownBy w' v.ownBlock) (hbase : base ≤ w.heap.size) : Below base w0 w' := below_app hb h g hbase
/-- An append as a step, whatever follows. -/
theorem wapp {P : Program} {K : Act → World → Prop} {Q : Exit → Act → World → Prop} {a : Act} {w : World} {o : Oper} (s x : Operand) {t e : TypeId} {size bytes : Nat} {z : Value}
    (hE : Elem P t e size bytes z) (ho : o.op = .call { callee := .builtin .append, args := #[s, x], argTypes := #[t, t] })
    (base : Nat) {A : Option Addr} {n c : Nat} (xs : List Value) (hs : a.eval s = .slice A n c) (hown : w.ownsRow base e size (.slice A n c) n xs)
    {m c' : Nat} {A' : Option Addr} (hx : a.eval x = .slice A' m c') {B : Nat} (news : List Value) (hr : Rd w B size A' m news) (h1 : ∀ u ∈ news, u.oneCell' = true)
    (h63 : n + m ≤ maxLen) (hlim : (n + m) * bytes ≤ 140737488355328) (hbase : base ≤ w.heap.size)
    {k : Nat} (hk : n + m = k) {zs : List Value} (hz : xs ++ news = zs)
    (h : ∀ A2 c2 w', w'.ownsRow base e size (.slice A2 k c2) k zs → w.grownBy w' (Value.slice A n c).ownBlock → K (a.put o.dst (.slice A2 k c2)) w') : o.wp P a w K Q := by
  subst hk hz
  obtain ⟨A2, c2, w', hrun, h2, h3, h4⟩ := run_app (P := P) w hE o.type base hown (c' := c') hr h1 h63 hlim hbase
  unfold Oper.wp execOp
  simp only [ho, resolve, invoke, builtin, Sem.run_bind, Sem.run_pure, Result.andThen_ok, List.map_toArray, List.map_cons, List.map_nil, hs, hx, hrun]
  exact h A2 c2 w' h2 h3
end Go.Proofs.Ytpdfhbgemmpleaa.T
