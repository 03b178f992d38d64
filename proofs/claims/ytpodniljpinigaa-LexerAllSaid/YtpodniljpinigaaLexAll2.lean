/- All's contract in one: the tokens but for their places, or the error and its place. -/
import Derived.Test.YtpodniljpinigaaLexU
import Derived.Test.YtpodniljpinigaaLexLives
namespace Go.Proofs.Ytpodniljpinigaa.X
open Go.RowKit O V S

/-- An append to a row of the call's own at an operation that a guard lets through. -/
theorem wpList_appG {P : Program} {w : World} {ops : Array Oper} {rest : List Oper} {o : Oper} {a : Act} {Q : Exit → Act → World → Prop} (hwant : Region.wanted o (yielded ops a.tmps) = true) (s x : Operand) {t e : TypeId} {size bytes : Nat} {z : Value}
    (hE : Elem P t e size bytes z) (ho : o.op = .call { callee := .builtin .append, args := #[s, x], argTypes := #[t, t] })
    (base : Nat) {A : Option Addr} {n c : Nat} (xs : List Value) (hs : a.eval s = .slice A n c) (hown : w.ownsRow base e size (.slice A n c) n xs)
    {m c' : Nat} {A' : Option Addr} (hx : a.eval x = .slice A' m c') {B : Nat} (news : List Value) (hr : Rd w B size A' m news) (h1 : ∀ u ∈ news, u.oneCell' = true)
    (h63 : n + m ≤ maxLen) (hlim : (n + m) * bytes ≤ 140737488355328) (hbase : base ≤ w.heap.size)
    {k : Nat} (hk : n + m = k) {zs : List Value} (hz : xs ++ news = zs)
    (h : ∀ A2 c2 w', w'.ownsRow base e size (.slice A2 k c2) k zs → w.grownBy w' (Value.slice A n c).ownBlock → wpList P ops Q rest (a.put o.dst (.slice A2 k c2)) w') : wpList P ops Q (o :: rest) a w := by
  subst hk hz
  obtain ⟨A2, c2, w', hrun, h2, h3, h4⟩ := run_app (P := P) w hE o.type base hown (c' := c') hr h1 h63 hlim hbase
  refine wpList_step fun K hK => ?_
  rw [if_pos hwant]
  unfold Oper.wp execOp
  simp only [ho, resolve, invoke, builtin, Sem.run_bind, Sem.run_pure, Result.andThen_ok, List.map_toArray, List.map_cons, List.map_nil, hs, hx, hrun]
  exact hK _ _ (h A2 c2 w' h2 h3)
/-- What an append to a row above w does to all that was there. -/
theorem below_own {w a b : World} {base e size n m : Nat} {A : Option Addr} {c : Nat} {xs : List Value} (h : Below w.heap.size w a) (ho : a.ownsRow base e size (.slice A n c) m xs) (k : a.grownBy b (Value.slice A n c).ownBlock) (hb : w.heap.size ≤ base) : Below w.heap.size w b :=
  ⟨k.os.trans h.os, k.tape.trans h.tape, k.output.trans h.output, Nat.le_trans h.size k.size, fun i hi => (k.block i (Nat.lt_of_lt_of_le hi h.size) (fun e => by have := (ho.lt _ e.symm).1; omega)).trans (h.block i hi)⟩
theorem LexU.len {u : List UInt8} {l : List (Int × List UInt8 × Val)} {e : Int} {o : Nat} (h : LexU u l e o) : l.length ≤ u.length := by
  induction h with
  | fin _ => simp
  | err _ _ _ => simp
  | @tok u v l e o h hv he hr ih =>
    have hp := tokL_pos v he
    have h1 := skip_len _ u (Nat.le_refl _)
    rw [h] at h1
    rw [List.length_drop] at ih
    simp; omega
/-- What All hands back of the text s. -/
def AllX (s : List UInt8) (A : Option Addr) (n : Nat) (er a b d : Int) (w : World) : Prop := ∃ l o, LexU s l er o ∧ (er = 0 → a = 0 ∧ b = 0 ∧ d = 0 ∧ ∃ l', l'.map core = l ∧ TRow w A n l') ∧ (er ≠ 0 → n = 0 ∧ o ≤ s.length ∧ pv a b d = plc s (s.length - o))
theorem AllX.next {s : List UInt8} {A : Option Addr} {n : Nat} {er a b d : Int} {w W : World} (h : AllX s A n er a b d w) (bl : Below w.heap.size w W) : AllX s A n er a b d W := by
  obtain ⟨l, o, h1, h2, h3⟩ := h
  refine ⟨l, o, h1, fun he => ?_, h3⟩
  obtain ⟨e1, e2, e3, l', e4, e5⟩ := h2 he
  exact ⟨e1, e2, e3, l', e4, e5.next bl⟩
theorem all_x (s : List UInt8) (w : World) (hs : s.length ≤ 16384) : Calls Try.prog 20 #[.string ⟨s.toArray⟩] w fun e w' => (∃ A n c er a b d, e = .returned (.tuple #[.slice A n c, .int .i64 er, pv a b d]) ∧ AllX s A n er a b d w' ∧ (n : Int) ≤ 16384) ∧ Below w.heap.size w w' := by
  obtain ⟨o, hu, ho⟩ := LexU.of_lex s
  have hlen := hu.len
  refine (all_any s w (by omega)).mono fun e w' ⟨h, b⟩ => ⟨?_, b⟩
  unfold RetAll at h
  rw [if_neg (by omega)] at h
  by_cases he : (lexS s (s.length + 1) 0).2.1 = 0
  · rw [if_neg (by simp [he])] at h
    obtain ⟨A, n, c, xs, rfl, h1, h2⟩ := h
    have hr := Rd.of_own h1
    have hl := hr.len_of TkC.size h2 (by omega)
    rw [List.length_map] at hlen
    refine ⟨A, n, c, 0, 0, 0, 0, rfl, ⟨_, o, by rw [he] at hu; exact hu, fun _ => ⟨rfl, rfl, rfl, _, rfl, ⟨⟨xs, hr, h2.imp (TkD.of (s := s))⟩, by omega⟩⟩, fun h => absurd rfl h⟩, by omega⟩
  · rw [if_pos he] at h
    have hoff := ho he
    subst h
    have hcl : clampI s ((lexS s (s.length + 1) 0).2.2 : Nat) = s.length - o := by unfold clampI; rw [if_neg (by omega), if_neg (by omega)]; omega
    rw [hcl]
    refine ⟨none, 0, 0, (lexS s (s.length + 1) 0).2.1, _, _, _, rfl, ⟨_, o, hu, fun h => absurd h he, fun _ => ⟨rfl, by omega, rfl⟩⟩, by omega⟩
theorem plc_app (s t : List UInt8) (i : Nat) (h : i ≤ s.length) : plc (s ++ t) i = plc s i := by
  unfold plc
  rw [(line_app s t i h).1, (line_app s t i h).2]
/-- What All says of a text, a line's end and another text. -/
theorem join_err {s t : List UInt8} {A A' : Option Addr} {n n' : Nat} {er er' a b d a' b' d' : Int} {w w' : World} (h : AllX s A n er a b d w) (h' : AllX (s ++ 10 :: t) A' n' er' a' b' d' w') (h0 : er ≠ 0) (h12 : er ≠ 12) : er' = er ∧ a' = a ∧ b' = b ∧ d' = d := by
  obtain ⟨l, o, h1, _, h3⟩ := h
  obtain ⟨l', o', k1, _, k3⟩ := h'
  obtain ⟨e1, e2, e3⟩ := k1.det ((h1.join t).2 h0 h12)
  obtain ⟨_, ho, hp⟩ := h3 h0
  obtain ⟨_, ho', hp'⟩ := k3 (by rw [e2]; exact h0)
  have e4 : (s ++ 10 :: t).length - o' = s.length - o := by simp; omega
  rw [e4, plc_app _ _ _ (by omega), ← hp] at hp'
  unfold pv at hp'
  injection hp' with hp'
  simp at hp'
  exact ⟨e2, hp'.1, hp'.2.1, hp'.2.2⟩
theorem join_ok {s t : List UInt8} {A A2 A' : Option Addr} {n n2 n' : Nat} {er2 er' a b d a2 b2 d2 a' b' d' : Int} {w w2 w' : World} (h : AllX s A n 0 a b d w) (k : AllX t A2 n2 er2 a2 b2 d2 w2) (h' : AllX (s ++ 10 :: t) A' n' er' a' b' d' w') : er' = er2 ∧ (er2 = 0 → ∃ l1 l2 l3, TRow w A n l1 ∧ TRow w2 A2 n2 l2 ∧ TRow w' A' n' l3 ∧ sameT l3 (l1 ++ l2) = true) := by
  obtain ⟨l, o, h1, h2, _⟩ := h
  obtain ⟨l2, o2, k1, k2, _⟩ := k
  obtain ⟨l', o', m1, m2, _⟩ := h'
  obtain ⟨e1, e2, e3⟩ := m1.det ((h1.join t).1 rfl k1)
  refine ⟨e2, fun h0 => ?_⟩
  obtain ⟨_, _, _, x1, x2, x3⟩ := h2 rfl
  obtain ⟨_, _, _, y1, y2, y3⟩ := k2 h0
  obtain ⟨_, _, _, z1, z2, z3⟩ := m2 (by rw [e2]; exact h0)
  exact ⟨x1, y1, z1, x3, y3, z3, by rw [sameT_iff, List.map_append, x2, y2, z2, e1]⟩
end Go.Proofs.Ytpodniljpinigaa.X
