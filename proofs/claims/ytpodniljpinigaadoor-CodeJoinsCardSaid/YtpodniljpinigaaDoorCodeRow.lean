/- Rows of instructions in memory; slices.Equal, the reference's Same and code.Same. -/
import Derived.Test.YtpodniljpinigaaDoorCodeOpen
import Derived.Test.YtpodniljpinigaaDoorCodePlain3
import Derived.Test.YtpodniljpinigaaDoorCodeParse
namespace Go.Proofs.YtpodniljpinigaaDoor.C
open Go.RowKit O V

/-- An append to a row of the call's own at an operation that a guard lets through. -/
theorem wpList_appG {P : Program} {w : World} {ops : Array Oper} {rest : List Oper} {o : Oper} {a : Act} {Q : Exit → Act → World → Prop} (hwant : Region.wanted o (yielded ops a.tmps) = true) (s x : Operand) {t e : TypeId} {size bytes : Nat} {z : Value}
    (hE : Elem P t e size bytes z) (ho : o.op = .call { callee := .builtin .append, args := #[s, x], argTypes := #[t, t] })
    (base : Nat) {A : Option Addr} {n c : Nat} (xs : List Value) (hs : a.eval s = .slice A n c) (hown : w.ownsRow base e size (.slice A n c) n xs)
    {m c' : Nat} {A' : Option Addr} (hx : a.eval x = .slice A' m c') {B : Nat} (news : List Value) (hr : Rd w B size A' m news) (h1 : ∀ u ∈ news, u.oneCell' = true)
    (h63 : n + m ≤ maxLen) (hlim : (n + m) * bytes ≤ 140737488355328) (hbase : base ≤ w.heap.size)
    {k : Nat} (hk : n + m = k) {zs : List Value} (hz : xs ++ news = zs)
    (h : ∀ A2 c2 w', w'.ownsRow base e size (.slice A2 k c2) k zs → w.grownBy w' (Value.slice A n c).ownBlock → wpList P ops Q rest (a.put o.dst (.slice A2 k c2)) w') : wpList P ops Q (o :: rest) a w := by
  subst hk hz
  obtain ⟨A2, c2, w', hrun, h2, h3, h4⟩ := run_app (P := P) w hE o.type base hown (c' := c') hr h1 h63 hlim hbase
  refine wpList_step fun K hK => ?_
  rw [if_pos hwant]
  unfold Oper.wp execOp
  simp only [ho, resolve, invoke, builtin, Sem.run_bind, Sem.run_pure, Result.andThen_ok, List.map_toArray, List.map_cons, List.map_nil, hs, hx, hrun]
  exact hK _ _ (h A2 c2 w' h2 h3)
/-- What an append to a row above w does to all that was there. -/
theorem below_own {w a b : World} {base e size n m : Nat} {A : Option Addr} {c : Nat} {xs : List Value} (h : Below w.heap.size w a) (ho : a.ownsRow base e size (.slice A n c) m xs) (k : a.grownBy b (Value.slice A n c).ownBlock) (hb : w.heap.size ≤ base) : Below w.heap.size w b :=
  ⟨k.os.trans h.os, k.tape.trans h.tape, k.output.trans h.output, Nat.le_trans h.size k.size, fun i hi => (k.block i (Nat.lt_of_lt_of_le hi h.size) (fun e => by have := (ho.lt _ e.symm).1; omega)).trans (h.block i hi)⟩
theorem insE : Elem Tryd.prog 22 29 8 72 (.agg #[.int .i64 0, .int .i64 0, .int .i64 0, .int .i64 0, .int .i64 0, .int .i64 0, .int .i64 0, .string ByteArray.empty]) := by
  obtain ⟨i, hi, h1, h2, h3⟩ := info_parts (show (Tryd.prog.info? 29).map (fun i => (i.zero, i.size, i.bytes)) = some (some (.agg #[.int .i64 0, .int .i64 0, .int .i64 0, .int .i64 0, .int .i64 0, .int .i64 0, .int .i64 0, .string ByteArray.empty]), 8, 72) by kernel_rfl)
  exact ⟨Tryd.underlying22, i, hi, h1, h2, h3, rfl, by omega⟩
/-- What an instruction's numbers and text are at most. -/
structure okP (x : Ins) : Prop where
  s : x.v.s.length ≤ 1000
  f : ∀ n ∈ fl x, fit n
  v : fit x.v.n
theorem tidy.ok {x : Ins} (h : tidy x) : okP x := by
  refine ⟨?_, h.fit, ?_⟩
  · by_cases h1 : x.op = 1
    · exact good_len (h.v1 h1)
    · rw [h.v0 h1]; decide
  · by_cases h1 : x.op = 1
    · exact (h.v1 h1).2
    · rw [h.v0 h1]; exact ⟨by decide, by decide⟩
def InsD (x : Ins) (vs : List Value) : Prop := vs = insC x
theorem InsD.size : ∀ (x : Ins) (vs : List Value), InsD x vs → vs.length = 8 := by rintro x vs rfl; rfl
theorem InsD.one : ∀ (x : Ins) (vs : List Value), InsD x vs → ∀ u ∈ vs, u.oneCell' = true := by rintro x vs rfl u hu; simp [insC] at hu; rcases hu with rfl | rfl | rfl | rfl | rfl | rfl | rfl | rfl <;> rfl
theorem InsD.of : ∀ (x : Ins) (vs : List Value), InC x vs → InsD x vs := fun _ _ h => h.1
theorem Reps.ok {rep : Ins → List Value → Prop} {p : Ins → Prop} (h : ∀ x vs, rep x vs → p x) : ∀ {l : List Ins} {xs : List Value}, Reps rep l xs → ∀ x ∈ l, p x
  | [], _, _, x, hx => by simp at hx
  | a :: l, _, ⟨vs, ys, _, h1, h2⟩, x, hx => by
    rcases List.mem_cons.1 hx with rfl | hx
    · exact h _ _ h1
    · exact Reps.ok h h2 x hx
/-- The slice (A, n, c) reads as the instructions l. -/
structure IRow (w : World) (A : Option Addr) (n c : Nat) (l : List Ins) : Prop where
  rd : ∃ xs, Rd w w.heap.size 8 A n xs ∧ Reps InsD l xs
  n : n ≤ c
theorem IRow.len {w : World} {A : Option Addr} {n c : Nat} {l : List Ins} (h : IRow w A n c l) : l.length = n := by
  obtain ⟨xs, h1, h2⟩ := h.rd
  exact h1.len_of InsD.size h2 (by omega)
theorem IRow.next {w W : World} {A : Option Addr} {n c : Nat} {l : List Ins} (h : IRow w A n c l) (b : Below w.heap.size w W) : IRow W A n c l := by
  obtain ⟨xs, h1, h2⟩ := h.rd
  exact ⟨⟨xs, h1.next b, h2⟩, h.n⟩
theorem IRow.nil (w : World) (c : Nat) : IRow w none 0 c [] := ⟨⟨[], ⟨rfl, fun h => absurd h (by simp)⟩, rfl⟩, by omega⟩
theorem IRow.own {w : World} {base e n c : Nat} {A : Option Addr} {l : List Ins} (h : w.ownsRow base e 8 (.slice A n c) n (l.flatMap insC)) : IRow w A n c l := ⟨⟨_, Rd.of_own h, Reps.of_fun insC l⟩, own_capC h⟩
/-- All eight cells of an instruction that is read. -/
theorem IRow.at8 {w : World} {A : Option Addr} {n c : Nat} {l : List Ins} (h : IRow w A n c l) {k : Nat} (hk : k < l.length) : ∃ b off, A = some ⟨b, off, none⟩ ∧ b < w.heap.size ∧
    ∀ W, Below w.heap.size w W → W.cell? ⟨b, off + k * 8, none⟩ = some (.int .i64 l[k].op) ∧ W.cell? ⟨b, off + k * 8 + 1, none⟩ = some (.int .i64 l[k].a) ∧ W.cell? ⟨b, off + k * 8 + 2, none⟩ = some (.int .i64 l[k].b) ∧ W.cell? ⟨b, off + k * 8 + 3, none⟩ = some (.int .i64 l[k].c) ∧ W.cell? ⟨b, off + k * 8 + 4, none⟩ = some (.int .i64 l[k].d) ∧ W.cell? ⟨b, off + k * 8 + 5, none⟩ = some (.int .i64 l[k].v.k) ∧ W.cell? ⟨b, off + k * 8 + 6, none⟩ = some (.int .i64 l[k].v.n) ∧ W.cell? ⟨b, off + k * 8 + 7, none⟩ = some (.string ⟨l[k].v.s.toArray⟩) := by
  obtain ⟨xs, h1, h2⟩ := h.rd
  obtain ⟨b, off, vs, e, hb, rfl, hc⟩ := h1.elem InsD.size h2 hk (by omega)
  refine ⟨b, off, e, hb, fun W bW => ⟨?_, ?_, ?_, ?_, ?_, ?_, ?_, ?_⟩⟩
  · exact (bW.cell (p := ⟨b, off + k * 8 + 0, none⟩) hb).trans (hc 0 (by omega))
  · exact (bW.cell (p := ⟨b, off + k * 8 + 1, none⟩) hb).trans (hc 1 (by omega))
  · exact (bW.cell (p := ⟨b, off + k * 8 + 2, none⟩) hb).trans (hc 2 (by omega))
  · exact (bW.cell (p := ⟨b, off + k * 8 + 3, none⟩) hb).trans (hc 3 (by omega))
  · exact (bW.cell (p := ⟨b, off + k * 8 + 4, none⟩) hb).trans (hc 4 (by omega))
  · exact (bW.cell (p := ⟨b, off + k * 8 + 5, none⟩) hb).trans (hc 5 (by omega))
  · exact (bW.cell (p := ⟨b, off + k * 8 + 6, none⟩) hb).trans (hc 6 (by omega))
  · exact (bW.cell (p := ⟨b, off + k * 8 + 7, none⟩) hb).trans (hc 7 (by omega))
theorem Val.same {x y : Val} (h1 : x.k = y.k) (h2 : x.n = y.n) (h3 : x.s = y.s) : x = y := by cases x; cases y; simp_all
theorem Ins.same {x y : Ins} (h0 : x.op = y.op) (h1 : x.a = y.a) (h2 : x.b = y.b) (h3 : x.c = y.c) (h4 : x.d = y.d) (h5 : x.v.k = y.v.k) (h6 : x.v.n = y.v.n) (h7 : x.v.s = y.v.s) : x = y := by
  obtain ⟨a, b, c, d, e, f⟩ := x
  obtain ⟨a', b', c', d', e', f'⟩ := y
  simp only at h0 h1 h2 h3 h4 h5 h6 h7
  subst h0 h1 h2 h3 h4
  rw [Val.same h5 h6 h7]
instance : DecidableEq Ins := fun a b => if h : a.op = b.op ∧ a.a = b.a ∧ a.b = b.b ∧ a.c = b.c ∧ a.d = b.d ∧ a.v.k = b.v.k ∧ a.v.n = b.v.n ∧ a.v.s = b.v.s then isTrue (Ins.same h.1 h.2.1 h.2.2.1 h.2.2.2.1 h.2.2.2.2.1 h.2.2.2.2.2.1 h.2.2.2.2.2.2.1 h.2.2.2.2.2.2.2) else isFalse (fun e => h (by subst e; exact ⟨rfl, rfl, rfl, rfl, rfl, rfl, rfl, rfl⟩))
theorem ineq_yes {x y : Ins} (h : x ≠ y) (w : World) : (binOp .neq 29 (insV x) (insV y)).run Tryd.prog w = .ok (.bool true) w := by
  unfold insV insC
  go_simp
  exact fun h0 h1 h2 h3 h4 h5 h6 h7 => h (Ins.same h0 h1 h2 h3 h4 h5 h6 h7)
theorem ineq_no (x : Ins) (w : World) : (binOp .neq 29 (insV x) (insV x)).run Tryd.prog w = .ok (.bool false) w := by
  unfold insV insC
  go_simp
def sameI (a b : List Ins) : Bool := decide (a = b)
theorem sameI_len {a b : List Ins} (h : a.length ≠ b.length) : sameI a b = false := by unfold sameI; rw [decide_eq_false]; exact fun e => h (by rw [e])
theorem take_sameI {a b : List Ins} {k : Nat} (h1 : k < a.length) (h2 : k < b.length) (h : a.take k = b.take k) (he : a[k] = b[k]) : a.take (k + 1) = b.take (k + 1) := by
  rw [List.take_succ_eq_append_getElem h1, List.take_succ_eq_append_getElem h2, h, he]
theorem at_neI {a b : List Ins} {k : Nat} (h1 : k < a.length) (h2 : k < b.length) (he : a[k] ≠ b[k]) : sameI a b = false := by
  unfold sameI; rw [decide_eq_false]; intro e; subst e; exact he rfl
end Go.Proofs.YtpodniljpinigaaDoor.C
