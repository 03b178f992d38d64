/- An append onto a row of the call's own within a drawn region's schedule (SchedB). -/
import Derived.Test.YtpkoijlbbfffiaaSchedB
import Derived.Test.YtpkoijlbbfffiaaLaws
namespace Go.Proofs.Ytpkoijlbbfffiaa
open Go.RowKit

/-- The row of an empty slice literal. -/
theorem own_mt (w : World) {base e size : Nat} (hB : base ≤ w.heap.size) : (w.alloc (.cells #[] e)).ownsRow base e size (.slice (some ⟨w.heap.size, 0, none⟩) 0 0) 0 [] :=
  ⟨by simp, .inr ⟨w.heap.size, 0, #[], rfl, hB, heap_alloc_new w _, Nat.le_refl _, Nat.zero_le _, by simp, by simp⟩⟩
theorem own_mtb (w : World) {base e size b : Nat} (hb : b = w.heap.size) (hB : base ≤ b) : (w.alloc (.cells #[] e)).ownsRow base e size (.slice (some ⟨b, 0, none⟩) 0 0) 0 [] := by subst hb; exact own_mt w hB
/-- A step that appends. -/
theorem bapp {P : Program} {Q : Exit → Act → World → Prop} {bs : List Nat} {l : List Oper} {i : Nat} {rest : List (Nat × Bool)} {a : Act} {w : World} {o : Oper} (hi : l[i]? = some o) (hwant : Region.wanted o (yielded l.toArray a.tmps) = true) (s x : Operand) {t e : TypeId} {size bytes : Nat} {z : Value}
    (hE : Elem P t e size bytes z) (ho : o.op = .call { callee := .builtin .append, args := #[s, x], argTypes := #[t, t] })
    (base : Nat) {A : Option Addr} {n c : Nat} (xs : List Value) (hs : a.eval s = .slice A n c) (hown : w.ownsRow base e size (.slice A n c) n xs)
    {m c' : Nat} {A' : Option Addr} (hx : a.eval x = .slice A' m c') {B : Nat} (news : List Value) (hr : Rd w B size A' m news) (h1 : ∀ u ∈ news, u.oneCell' = true)
    (h63 : n + m ≤ maxLen) (hlim : (n + m) * bytes ≤ 140737488355328) (hbase : base ≤ w.heap.size) (hbs : ∀ b ∈ bs, b < base)
    {k : Nat} (hk : n + m = k) {zs : List Value} (hz : xs ++ news = zs)
    (h : ∀ A2 c2 w', w'.ownsRow base e size (.slice A2 k c2) k zs → w.grownBy w' (Value.slice A n c).ownBlock → wpSchedB bs P l.toArray Q rest (a.put o.dst (.slice A2 k c2)) w') : wpSchedB bs P l.toArray Q ((i, false) :: rest) a w := by
  subst hk hz
  obtain ⟨A2, c2, w', hrun, h2, h3, h4⟩ := run_app (P := P) w hE o.type base hown (c' := c') hr h1 h63 hlim hbase
  refine bcall hi hwant fun K hK => ?_
  unfold Oper.wp execOp
  simp only [ho, resolve, invoke, builtin, Sem.run_bind, Sem.run_pure, Result.andThen_ok, List.map_toArray, List.map_cons, List.map_nil, hs, hx, hrun]
  exact hK.out _ _ (fun b hb => h3.block b (Nat.lt_of_lt_of_le (hbs b hb) hbase) (fun e => by have := (hown.lt _ e.symm).1; have := hbs b hb; omega)) (h A2 c2 w' h2 h3)
end Go.Proofs.Ytpkoijlbbfffiaa
