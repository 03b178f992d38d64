/- Texts of the proof, joined: SynLex, SynSound. -/
import Derived.Test.YtnbmpfdffoidaaaGreatSp02
import Derived.Test.YtnbmpfdffoidaaaGreatSp06
set_option linter.unusedVariables false
set_option linter.unusedSimpArgs false
set_option maxHeartbeats 8000000
set_option maxRecDepth 100000
namespace Go.Proofs.YtnbmpfdffoidaaaGreat.Y
open O V S X
structure TokOk (t : Tok) : Prop where
 front : ∃ c r, t.2.1 = c :: r ∧ blankC c = false ∧ c.toNat ≠ 35
 lex : tokL t.2.1 = ⟨0, 0, t.1, t.2.1.length, t.2.2⟩
theorem TokOk.ne {t : Tok} (h : TokOk t) : t.2.1 ≠ [] := by obtain ⟨c, r, e, _⟩ := h.front; rw [e]; simp
theorem TokOk.skip {t : Tok} (h : TokOk t) (w : List UInt8) : skip (t.2.1 ++ w) = t.2.1 ++ w := by
 obtain ⟨c, r, e, h1, h2⟩ := h.front
 rw [e, List.cons_append, skip_stop _ h1 h2]
inductive Spread : List Tok → List UInt8 → Prop
 | fin {u : List UInt8} (h : X.skip u = []) : Spread [] u
 | last (t : Tok) (h : TokOk t) : Spread [t] t.2.1
 | more (t : Tok) {l : List Tok} {d : UInt8} {u v : List UInt8} (h : TokOk t) (hd : blankC d = true) (hv : X.skip u = X.skip v) (k : Spread l v) : Spread (t :: l) (t.2.1 ++ d :: u)
theorem Spread.lex {l : List Tok} {u : List UInt8} (h : Spread l u) : LexU u l 0 0 := by
 induction h with
 | fin h => exact .fin h
 | last t h =>
  have h1 := h.skip []
  rw [List.append_nil] at h1
  have := LexU.tok (l := []) (e := 0) (o := 0) h1 h.ne (by rw [h.lex]) (by
   rw [h.lex, List.drop_of_length_le (Nat.le_refl _)]
   exact .fin skip_nil)
  rw [h.lex, List.take_of_length_le (Nat.le_refl _)] at this
  exact this
 | @more t l d u v h hd hv k ih =>
  have hb := tok_app hd u t.2.1 h.ne (by rw [h.lex]; exact (by decide : (0 : Int) ≠ 12))
  rw [h.lex] at hb
  have := LexU.tok (l := l) (e := 0) (o := 0) (h.skip (d :: u)) (by simp) (by rw [hb]) (by
   rw [hb, List.drop_append_of_le_length (Nat.le_refl _), List.drop_of_length_le (Nat.le_refl _), List.nil_append]
   exact ih.congr (by rw [skip_blank _ hd]; exact hv))
  rw [hb, List.take_append_of_le_length (Nat.le_refl _), List.take_of_length_le (Nat.le_refl _)] at this
  exact this
theorem spread_joinB : ∀ l : List Tok, (∀ t ∈ l, TokOk t) → Spread l (joinB (l.map (·.2.1)))
 | [], _ => .fin (by simp [joinB, skip_nil])
 | [t], h => .last t (h t (by simp))
 | t :: y :: r, h => .more t (h t (by simp)) (by decide) rfl (spread_joinB (y :: r) fun x hx => h x (by simp at hx ⊢; exact .inr hx))
theorem runLen_all {p : UInt8 → Bool} : ∀ {l : List UInt8}, l.all p = true → runLen p l = l.length
 | [], _ => rfl
 | c :: r, h => by
  simp only [List.all_cons, Bool.and_eq_true] at h
  rw [runLen, if_pos h.1, runLen_all h.2]; rfl
theorem rest_word {c : UInt8} (h : restC c = true) : wordC c = true := by
 unfold restC otherC at h
 unfold wordC digitC
 simp only [Bool.or_eq_true] at h ⊢
 rcases h with h | h | h
 ·exact .inl h
 ·exact .inr (.inr h)
 ·exact .inr (.inl h)
theorem word_ok {s : List UInt8} (h : goodL s = true) (h1 : 1 ≤ s.length) (h2 : s.length ≤ 16) : TokOk (tw s) := by
 cases s with
 | nil => simp at h1
 | cons c r =>
  simp only [goodL, Bool.and_eq_true] at h
  have hc := h.1
  unfold smallC at hc
  simp only [Bool.and_eq_true, decide_eq_true_eq] at hc
  have hw : (c :: r).all wordC = true := by
   simp only [List.all_cons, Bool.and_eq_true]
   refine ⟨rest_word (by unfold restC; rw [h.1]; rfl), ?_⟩
   rw [List.all_eq_true] at h ⊢
   exact fun x hx => rest_word (h.2 x hx)
  have hr := runLen_all hw
  refine ⟨⟨c, r, rfl, by simp [blankC]; omega, by omega⟩, ?_⟩
  show tokL (c :: r) = _
  rw [tokL_cons, if_pos h.1, hr, if_neg (by simp at h2 ⊢; omega)]
  rfl
theorem name_ok {s : List UInt8} (h : isNameL s = true) : TokOk (tw s) := by
 have h3 := name_len h
 unfold isNameL at h
 simp only [Bool.and_eq_true, decide_eq_true_eq] at h
 exact word_ok h.1.1 h3.1 h3.2
theorem num_ok {n : Int} (h : 0 ≤ n ∧ n ≤ 9223372036854775807) : TokOk (tn n) := by
 have e : decL n = digN n.natAbs := by rw [decL, if_neg (by omega)]
 obtain ⟨c, r, hcr, h1, h2⟩ := digN_cons n.natAbs
 have ha : (digN n.natAbs).all digitC = true := by
  rw [List.all_eq_true]
  intro x hx
  have := digN_mem n.natAbs x hx
  simp [digitC]; omega
 have hr := runLen_all ha
 refine ⟨⟨c, r, by rw [← hcr, ← e]; rfl, by simp [blankC]; omega, by omega⟩, ?_⟩
 show tokL (decL n) = ⟨0, 0, 2, (decL n).length, ⟨1, n, []⟩⟩
 have hh := dig_head n.natAbs
 have hv := numV_dig n.natAbs
 rw [e]
 rw [hcr] at hr hh hv ⊢
 rw [tokL_cons, if_neg (by simp [smallC]; omega), if_pos (by simp [digitC]; omega), hr, List.take_of_length_le (Nat.le_refl _)]
 rw [if_pos (by
  unfold numOk
  rw [hv]
  simp only [Bool.and_eq_true, Bool.or_eq_true, decide_eq_true_eq]
  exact ⟨by omega, hh⟩), hv]
 rw [show ((n.natAbs : Nat) : Int) = n by omega]
theorem quo_esc (w : List UInt8) : ∀ (s : List UInt8), s.all V.okC = true → ∀ (k : Nat) (q : List UInt8), quoS (escL s ++ 34 :: w) k ⟨0, q, none⟩ = some ⟨k + (escL s).length, q ++ s, none⟩
 | [], _, k, q => by
  cases w with
  | nil => simp [escL, quoS]
  | cons d r => simp [escL, quoS]
 | c :: s, h, k, q => by
  simp only [List.all_cons, Bool.and_eq_true] at h
  have ih := quo_esc w s h.2
  have hok := h.1
  have hesc : escL (c :: s) = esc c ++ escL s := by simp [escL]
  rw [hesc]
  by_cases hc : c.toNat = 34 ∨ c.toNat = 92
  ·rw [show esc c = [92, c] by rw [esc, if_pos hc]]
   show quoS (92 :: c :: (escL s ++ 34 :: w)) k _ = _
   rw [quoS, if_neg (by decide), if_pos (by decide)]
   have hw : wrongC c = false := by unfold wrongC; simp; omega
   have he : escC c = true := by unfold escC; simpa using hc
   rw [he, hw]
   have := ih (k + 2) (q ++ [c])
   simp only [orE]
   rw [show (if ((!true || false : Bool) = true) then some (k + 1) else none : Option Nat) = none from rfl, this]
   simp; omega
  ·rw [show esc c = [c] by rw [esc, if_neg hc]]
   obtain ⟨d, r, hdr⟩ : ∃ d r, escL s ++ 34 :: w = d :: r := by
    cases hh : escL s with
    | nil => exact ⟨_, _, rfl⟩
    | cons x y => exact ⟨_, _, rfl⟩
   show quoS (c :: (escL s ++ 34 :: w)) k _ = _
   rw [hdr, quoS, if_neg (by omega), if_neg (by omega), ← hdr]
   have hw : wrongC c = false := by unfold V.okC at hok; unfold wrongC; simp at hok ⊢; omega
   rw [hw]
   have := ih (k + 1) (q ++ [c])
   simp only [orE]
   rw [show (if (false : Bool) = true then some k else none : Option Nat) = none from rfl, this]
   simp; omega
theorem text_ok {s : List UInt8} (h : plainL s = true) : TokOk (3, quoteL s, ⟨3, 0, s⟩) := by
 unfold plainL at h
 simp only [Bool.and_eq_true, decide_eq_true_eq] at h
 refine ⟨⟨34, escL s ++ [34], rfl, by decide, by decide⟩, ?_⟩
 show tokL (quoteL s) = ⟨0, 0, 3, (quoteL s).length, ⟨3, 0, s⟩⟩
 have hq := quo_esc [] s h.1 1 []
 have hq' : quoS ((quoteL s).drop 1) 1 ⟨0, [], none⟩ = some ⟨1 + (escL s).length, s, none⟩ := hq
 have e1 : tokL (quoteL s) = quoL (quoteL s) := by
  show tokL (34 :: (escL s ++ [34])) = _
  rw [tokL_cons, if_neg (by decide), if_neg (by decide), if_pos (by decide)]; rfl
 rw [e1, quoL_ok hq' rfl, if_neg (by simpa using h.2)]
 have : (quoteL s).length = 1 + (escL s).length + 1 := by simp [quoteL]; omega
 rw [this]
theorem val_ok {v : Val} (h : okV v) : TokOk (tv v) := by
 obtain ⟨k, n, s⟩ := v
 rcases right_cases h.1 with ⟨e, e2⟩ | ⟨e, e2, e3⟩ | ⟨e, e2, e3⟩
 ·simp only at e e2
  subst e e2
  have := h.2 rfl
  rw [tv, if_pos rfl]
  exact num_ok this
 ·simp only at e e2 e3
  subst e e2
  rw [tv, if_neg (by simp), if_pos rfl]
  split <;> exact word_ok (by decide) (by decide) (by decide)
 ·simp only at e e2 e3
  subst e e2
  rw [tv, if_neg (by simp), if_neg (by simp)]
  exact text_ok e3
theorem sign_ok {op : Nat} (h : 1 ≤ op ∧ op ≤ 12) : TokOk (tg (signS op)) := by
 have : op = 1 ∨ op = 2 ∨ op = 3 ∨ op = 4 ∨ op = 5 ∨ op = 6 ∨ op = 7 ∨ op = 8 ∨ op = 9 ∨ op = 10 ∨ op = 11 ∨ op = 12 := by omega
 rcases this with h | h | h | h | h | h | h | h | h | h | h | h <;> subst h <;> exact ⟨⟨_, _, rfl, by decide, by decide⟩, rfl⟩
def markL : List (List UInt8) := [[40], [41], [91], [93], [46], [44], [33], [45], [61], [59], [123], [125]]
theorem mark_ok : ∀ s ∈ markL, TokOk (tg s) := by
 intro s h
 simp only [markL, List.mem_cons, List.not_mem_nil, or_false] at h
 rcases h with h | h | h | h | h | h | h | h | h | h | h | h <;> subst h <;> exact ⟨⟨_, _, rfl, by decide, by decide⟩, rfl⟩
theorem kw_ok {s : List UInt8} (h : (goodL s && (decide (1 ≤ s.length) && decide (s.length ≤ 16))) = true) : TokOk (tw s) := by
 simp only [Bool.and_eq_true, decide_eq_true_eq] at h
 exact word_ok h.1 h.2.1 h.2.2
def AllOk (l : List Tok) : Prop := ∀ t ∈ l, TokOk t
theorem AllOk.nil : AllOk [] := fun _ h => by cases h
theorem AllOk.cons {t : Tok} {l : List Tok} (h : TokOk t) (k : AllOk l) : AllOk (t :: l) := fun x hx => by
 rcases List.mem_cons.1 hx with e | e
 ·rw [e]; exact h
 ·exact k x e
theorem AllOk.app {l m : List Tok} (h : AllOk l) (k : AllOk m) : AllOk (l ++ m) := fun x hx => by
 rcases List.mem_append.1 hx with e | e
 ·exact h x e
 ·exact k x e
theorem AllOk.w {s : List UInt8} {l : List Tok} (h : (goodL s && (decide (1 ≤ s.length) && decide (s.length ≤ 16))) = true) (k : AllOk l) : AllOk (tw s :: l) := .cons (kw_ok h) k
theorem AllOk.g {s : List UInt8} {l : List Tok} (h : s ∈ markL) (k : AllOk l) : AllOk (tg s :: l) := .cons (mark_ok s h) k
theorem AllOk.n {s : List UInt8} {l : List Tok} (h : isNameL s = true) (k : AllOk l) : AllOk (tw s :: l) := .cons (name_ok h) k
theorem AllOk.flat {α : Type} {f : α → List Tok} : ∀ {l : List α}, (∀ x ∈ l, AllOk (f x)) → AllOk (l.flatMap f)
 | [], _ => .nil
 | x :: r, h => by rw [List.flatMap_cons]; exact (h x (by simp)).app (AllOk.flat fun y hy => h y (by simp [hy]))
theorem br_ok {x : Ex} {least : Nat} {t : List Tok} (h : AllOk t) : AllOk (br x least t) := by
 unfold br
 split
 ·exact .g (by decide) (h.app (.g (by decide) .nil))
 ·exact h
theorem toks_ok : ∀ x, okX x → AllOk (toks0 x)
 | .val v, h => .cons (val_ok h) .nil
 | .var n, h => .n h .nil
 | .cell n c k, h => .n h.1 (.g (by decide) ((toks_ok k h.2.2).app (.g (by decide) (.g (by decide) (.n h.2.1 .nil)))))
 | .has n k, h => .w (by decide) (.g (by decide) (.n h.1 (.g (by decide) ((toks_ok k h.2).app (.g (by decide) .nil)))))
 | .sum n c a b, h => .w (by decide) (.g (by decide) (.n h.1 (.g (by decide) (.n h.2.1 (.g (by decide) ((toks_ok a h.2.2.1).app (.g (by decide) ((toks_ok b h.2.2.2).app (.g (by decide) .nil)))))))))
 | .cnt n a b, h => .w (by decide) (.g (by decide) (.n h.1 (.g (by decide) ((toks_ok a h.2.1).app (.g (by decide) ((toks_ok b h.2.2).app (.g (by decide) .nil)))))))
 | .un op a, h => by
  rw [toks0]
  refine .cons ?_ (br_ok (toks_ok a h.2))
  split <;> exact mark_ok _ (by decide)
 | .bin op a b, h => (br_ok (toks_ok a h.2.1)).app (.cons (sign_ok h.1) (br_ok (toks_ok b h.2.2)))
theorem els_ok {b : Sts} {t : List Tok} (h : AllOk t) : AllOk (elsT b t) := by
 cases b with
 | nil => exact .nil
 | cons s r => exact .w (by decide) (.g (by decide) (h.app (.g (by decide) .nil)))
mutual
theorem toksS_ok : ∀ s, okS s → AllOk (toksS s)
 | .let_ n e, h => by
  have h : isNameL n = true ∧ okX e := by simpa only [okS] using h
  rw [toksS]
  exact .w (by decide) (.n h.1 (.g (by decide) ((toks_ok e h.2).app (.g (by decide) .nil))))
 | .set n e, h => by
  have h : isNameL n = true ∧ okX e := by simpa only [okS] using h
  rw [toksS]
  exact .n h.1 (.g (by decide) ((toks_ok e h.2).app (.g (by decide) .nil)))
 | .put t c k e, h => by
  have h : isNameL t = true ∧ isNameL c = true ∧ okX k ∧ okX e := by simpa only [okS] using h
  rw [toksS]
  exact .n h.1 (.g (by decide) ((toks_ok k h.2.2.1).app (.g (by decide) (.g (by decide) (.n h.2.1 (.g (by decide) ((toks_ok e h.2.2.2).app (.g (by decide) .nil))))))))
 | .del t k, h => by
  have h : isNameL t = true ∧ okX k := by simpa only [okS] using h
  rw [toksS]
  exact .w (by decide) (.n h.1 (.g (by decide) ((toks_ok k h.2).app (.g (by decide) (.g (by decide) .nil)))))
 | .if_ e b els, h => by
  have h : okX e ∧ (okB b ∧ b.len ≤ 24) ∧ okB els ∧ els.len ≤ 24 := by simpa only [okS] using h
  rw [toksS]
  exact .w (by decide) ((toks_ok e h.1).app (.app (.g (by decide) ((toksB_ok b h.2.1.1).app (.g (by decide) .nil))) (els_ok (toksB_ok els h.2.2.1))))
 | .loop n name b, h => by
  have h : okNum n ∧ isNameL name = true ∧ okB b ∧ b.len ≤ 24 := by simpa only [okS] using h
  rw [toksS]
  exact .w (by decide) (.cons (num_ok h.1) (.n h.2.1 (.g (by decide) ((toksB_ok b h.2.2.1).app (.g (by decide) .nil)))))
 | .each n t lo hi k b, h => by
  have h : (isNameL n = true ∧ isNameL t = true) ∧ (okX lo ∧ okX hi) ∧ okNum k ∧ okB b ∧ b.len ≤ 24 := by simpa only [okS] using h
  rw [toksS]
  exact .w (by decide) (.n h.1.1 (.w (by decide) (.n h.1.2 (.w (by decide) ((toks_ok lo h.2.1.1).app (.w (by decide) ((toks_ok hi h.2.1.2).app (.w (by decide) (.cons (num_ok h.2.2.1) (.g (by decide) ((toksB_ok b h.2.2.2.1).app (.g (by decide) .nil))))))))))))
 | .roll, _ => by
  rw [toksS]
  exact .w (by decide) (.g (by decide) .nil)
 | .emit e, h => by
  have h : okX e := by simpa only [okS] using h
  rw [toksS]
  exact .w (by decide) ((toks_ok e h).app (.g (by decide) .nil))
theorem toksB_ok : ∀ b, okB b → AllOk (toksB b)
 | .nil, _ => by rw [toksB]; exact .nil
 | .cons s r, h => by
  have h : okS s ∧ okB r := by simpa only [okB] using h
  rw [toksB]
  exact (toksS_ok s h.1).app (toksB_ok r h.2)
end
theorem toksT_ok {k m : Int} (h : (k = 1 ∧ m = 0) ∨ (k = 2 ∧ m = 0) ∨ (k = 3 ∧ 1 ≤ m ∧ m ≤ 32)) : AllOk (toksT k m) := by
 unfold toksT
 split
 ·exact .w (by decide) .nil
 ·split
  ·exact .w (by decide) .nil
  ·exact .w (by decide) (.cons (num_ok (by omega)) .nil)
theorem toksC_ok {c : Cl} (h : okC c) : AllOk (toksC c) := .n h.n (toksT_ok h.t)
theorem toksTb_ok {t : Tb} (h : okT t) : AllOk (toksTb t) :=
 .w (by decide) (.n h.n (.w (by decide) (.cons (num_ok h.r) (.g (by decide) ((AllOk.flat fun c hc => (toksC_ok (h.c.2 c hc)).app (.g (by decide) .nil)).app (.g (by decide) .nil))))))
theorem toksPs_ok {l : List Cl} (h : ∀ c ∈ l, okC c) : AllOk (toksPs l) := by
 cases l with
 | nil => exact .nil
 | cons c r => exact (toksC_ok (h c (by simp))).app (AllOk.flat fun x hx => .g (by decide) (toksC_ok (h x (by simp [hx]))))
theorem toksP_ok {p : Pc} (h : okP p) : AllOk (toksP p) :=
 .w (by decide) (.n h.n (.g (by decide) ((toksPs_ok h.c.2).app (.g (by decide) (.g (by decide) ((toksB_ok p.body h.b.1.1).app (.g (by decide) .nil)))))))
theorem toksW_ok {w : Wk} (h : okW w) : AllOk (toksW w) := (AllOk.flat fun t ht => toksTb_ok (h.t.2 t ht)).app (AllOk.flat fun p hp => toksP_ok (h.p.2 p hp))
def txts (l : List Tok) : List (List UInt8) := l.map (·.2.1)
end Go.Proofs.YtnbmpfdffoidaaaGreat.Y
namespace Go.Proofs.YtnbmpfdffoidaaaGreat.Y
open O V S
def TokW (t : Tok) : Prop := (t.1 = 2 → ∃ n, okNum n ∧ t.2.2 = ⟨1, n, []⟩) ∧ (t.1 = 3 → ∃ s, plainL s = true ∧ t.2.2 = ⟨3, 0, s⟩)
def AllW (l : List Tok) : Prop := ∀ t ∈ l, TokW t
theorem AllW.tail {l : List Tok} (h : AllW l) : AllW l.tail := fun t ht => h t (List.mem_of_mem_tail ht)
theorem AllW.rest {t : Tok} {l : List Tok} (h : AllW (t :: l)) : AllW l := fun x hx => h x (by simp [hx])
variable {α β : Type}
def Snd (n : Nat) (Q : α → List Tok → Prop) : Res α → Prop
 | .oof => False
 | .bad => True
 | .ok a r => r.length < n ∧ AllW r ∧ Q a r
theorem Snd.bind {n m : Nat} {Q : α → List Tok → Prop} {R : β → List Tok → Prop} {p : Res α} {f : α → List Tok → Res β} (h : Snd n Q p) (k : ∀ a r, r.length < n → AllW r → Q a r → Snd m R (f a r)) : Snd m R (p.bind f) := by
 cases p with
 | oof => exact h
 | bad => trivial
 | ok a r => exact k a r h.1 h.2.1 h.2.2
theorem Snd.mono {n m : Nat} {Q R : α → List Tok → Prop} {p : Res α} (h : Snd n Q p) (hn : n ≤ m) (k : ∀ a r, Q a r → R a r) : Snd m R p := by
 cases p with
 | oof => exact h
 | bad => trivial
 | ok a r => exact ⟨Nat.lt_of_lt_of_le h.1 hn, h.2.1, k _ _ h.2.2⟩
theorem Snd.ok {n : Nat} {Q : α → List Tok → Prop} {a : α} {r : List Tok} (h1 : r.length < n) (h2 : AllW r) (h3 : Q a r) : Snd n Q (.ok a r) := ⟨h1, h2, h3⟩
theorem isT_pos {l : List Tok} {s : List UInt8} (h : isT l s = true) : 0 < l.length := by
 cases l with
 | nil => cases h
 | cons t r => simp
theorem want_snd {l : List Tok} (h : AllW l) (s : List UInt8) : Snd l.length (fun _ _ => True) (want l s) := by
 unfold want
 split
 ·rename_i hi
  have := isT_pos hi
  exact ⟨by simp; omega, h.tail, trivial⟩
 ·trivial
theorem name_snd {l : List Tok} (h : AllW l) : Snd l.length (fun n _ => isNameL n = true) (pName l) := by
 cases l with
 | nil => trivial
 | cons t r =>
  show Snd _ _ (if t.1 = 1 ∧ isNameL t.2.1 = true then Res.ok t.2.1 r else .bad)
  split
  ·rename_i hn
   exact ⟨by simp, h.rest, hn.2⟩
  ·trivial
theorem num_snd {l : List Tok} (h : AllW l) : Snd l.length (fun n _ => okNum n) (pNum l) := by
 cases l with
 | nil => trivial
 | cons t r =>
  show Snd _ _ (if t.1 = 2 then Res.ok t.2.2.n r else .bad)
  split
  ·rename_i hn
   obtain ⟨n, hn, e⟩ := (h t (by simp)).1 hn
   exact ⟨by simp, h.rest, by rw [e]; exact hn⟩
  ·trivial
theorem room_snd {l : List Tok} (h : AllW l) (n most : Nat) : Snd (l.length + 1) (fun _ r => n < most ∧ r = l) (room n most l) := by
 unfold room
 split
 ·trivial
 ·exact ⟨by omega, h, by omega, rfl⟩
theorem around_snd {l : List Tok} {a b : List UInt8} {d : Nat} {k : Nat → List Tok → Res α} {Q : α → Prop} (h : AllW l) (hd16 : d ≤ 16) (hk : d < 16 → ∀ r, r.length < l.length → AllW r → Snd (r.length + 1) (fun x _ => Q x) (k (d + 1) r)) : Snd l.length (fun x _ => d < 16 ∧ Q x) (around a b d l k) := by
 unfold around
 split
 ·rename_i hi
  have := isT_pos hi
  split
  ·trivial
  ·rename_i hd
   have hd' : d < 16 ∨ 16 < d := by omega
   rcases hd' with hd' | hd'
   ·refine (hk hd' _ (by simp; omega) h.tail).bind fun x r hr hw hq => ?_
    refine (want_snd hw b).bind fun _ r2 hr2 hw2 _ => ?_
    simp at hr
    exact .ok (by omega) hw2 ⟨hd', hq⟩
   ·exact absurd hd (by omega)
 ·trivial
theorem ndb_mono {x : Ex} {a b n : Nat} (h : a ≤ b) : ndb x a n ≤ ndb x b n := by
 unfold ndb
 split <;> split <;> omega
theorem ndb_ge {x : Ex} {a n : Nat} : n ≤ ndb x a n := by
 unfold ndb
 split <;> omega
theorem ndb_no {x : Ex} {a n : Nat} (h : a ≤ lvlX x) : ndb x a n = n := by
 unfold ndb
 rw [if_neg (by omega)]
theorem binS_cases (s : List UInt8) : binS s = (0, 0) ∨ ∃ op, (1 ≤ op ∧ op ≤ 12) ∧ binS s = (op, lvlS op) := by
 by_cases h1 : s = [124, 124]
 ·subst h1; exact .inr ⟨1, by decide, rfl⟩
 by_cases h2 : s = [38, 38]
 ·subst h2; exact .inr ⟨2, by decide, rfl⟩
 by_cases h3 : s = [61, 61]
 ·subst h3; exact .inr ⟨3, by decide, rfl⟩
 by_cases h4 : s = [33, 61]
 ·subst h4; exact .inr ⟨4, by decide, rfl⟩
 by_cases h5 : s = [60]
 ·subst h5; exact .inr ⟨5, by decide, rfl⟩
 by_cases h6 : s = [60, 61]
 ·subst h6; exact .inr ⟨6, by decide, rfl⟩
 by_cases h7 : s = [43]
 ·subst h7; exact .inr ⟨7, by decide, rfl⟩
 by_cases h8 : s = [45]
 ·subst h8; exact .inr ⟨8, by decide, rfl⟩
 by_cases h9 : s = [43, 43]
 ·subst h9; exact .inr ⟨9, by decide, rfl⟩
 by_cases h10 : s = [42]
 ·subst h10; exact .inr ⟨10, by decide, rfl⟩
 by_cases h11 : s = [47]
 ·subst h11; exact .inr ⟨11, by decide, rfl⟩
 by_cases h12 : s = [37]
 ·subst h12; exact .inr ⟨12, by decide, rfl⟩
 exact .inl (by unfold binS; rw [if_neg h1, if_neg h2, if_neg h3, if_neg h4, if_neg h5, if_neg h6, if_neg h7, if_neg h8, if_neg h9, if_neg h10, if_neg h11, if_neg h12])
theorem opT_cases (l : List Tok) : (opT l).2 = 0 ∨ ∃ op, (1 ≤ op ∧ op ≤ 12) ∧ opT l = (op, lvlS op) ∧ 0 < l.length := by
 cases l with
 | nil => exact .inl rfl
 | cons t r =>
  unfold opT
  simp only
  split
  ·rcases binS_cases t.2.1 with h | ⟨op, h1, h2⟩
   ·rw [h]; exact .inl rfl
   ·exact .inr ⟨op, h1, h2, by simp⟩
  ·exact .inl rfl
theorem lit_snd {l : List Tok} (h : AllW l) {v : Val} (hv : pLit l = some v) : okV v ∧ 0 < l.length := by
 cases l with
 | nil => cases hv
 | cons t r =>
  refine ⟨?_, by simp⟩
  have hw := h t (by simp)
  unfold pLit at hv
  simp only at hv
  split at hv
  ·injection hv with e; subst e; exact ⟨by decide, fun h => by simp at h⟩
  ·split at hv
   ·injection hv with e; subst e; exact ⟨by decide, fun h => by simp at h⟩
   ·split at hv
    ·rename_i h23
     injection hv with e
     subst e
     rcases h23 with h2 | h3
     ·obtain ⟨n, hn, e⟩ := hw.1 h2
      rw [e]
      exact ⟨by simp [right], fun _ => hn⟩
     ·obtain ⟨s, hs, e⟩ := hw.2 h3
      rw [e]
      exact ⟨by simp [right, hs], fun h => by simp at h⟩
    ·cases hv
def EQ (lvl d : Nat) (x : Ex) (r : List Tok) : Prop := okX x ∧ d + ndb x (lvl + 1) (nd x) ≤ 16 ∧ (opT r).2 ≤ lvl
def UQ (c d : Nat) (x : Ex) : Prop := okX x ∧ d + ndb x c (nd x) ≤ 16
theorem EQ.u {d : Nat} {x : Ex} {r : List Tok} (h : EQ 0 d x r) : okX x ∧ d + nd x ≤ 16 := ⟨h.1, Nat.le_trans (Nat.add_le_add_left ndb_ge _) h.2.1⟩
theorem expr_snd : ∀ f, (∀ lvl d l, lvl ≤ 5 → d ≤ 16 → AllW l → 4 * l.length + 3 ≤ f → Snd l.length (EQ lvl d) (pExpr f lvl d l)) ∧
  (∀ lvl d x l, lvl ≤ 5 → d ≤ 16 → AllW l → 4 * l.length + 1 ≤ f → okX x → d + ndb x (lvl + 1) (nd x) ≤ 16 → d + ndb x (opT l).2 (nd x) ≤ 16 → Snd (l.length + 1) (EQ lvl d) (pLoop f lvl d x l)) ∧
  (∀ d l, d ≤ 16 → AllW l → 4 * l.length + 2 ≤ f → Snd l.length (fun x _ => UQ 6 d x) (pUnary f d l)) ∧
  (∀ d l, d ≤ 16 → AllW l → 4 * l.length + 1 ≤ f → Snd l.length (fun x _ => UQ 7 d x) (pOperand f d l))
 | 0 => ⟨fun _ _ _ _ _ _ h => by omega, fun _ _ _ _ _ _ _ h => by omega, fun _ _ _ _ h => by omega, fun _ _ _ _ h => by omega⟩
 | f + 1 => by
  obtain ⟨he, hl, hu, ho⟩ := expr_snd f
  have he0 : ∀ d l, d ≤ 16 → AllW l → 4 * l.length + 3 ≤ f → Snd l.length (fun x _ => okX x ∧ d + nd x ≤ 16) (pExpr f 0 d l) := fun d l h1 h2 h3 => (he 0 d l (by omega) h1 h2 h3).mono (Nat.le_refl _) fun _ _ h => h.u
  refine ⟨fun lvl d l h1 h2 hw hf => ?_, fun lvl d x l h1 h2 hw hf hx hd hd2 => ?_, fun d l h2 hw hf => ?_, fun d l h2 hw hf => ?_⟩
  ·rw [pExpr]
   refine (hu d l h2 hw (by omega)).bind fun x r hr hwr hq => ?_
   refine (hl lvl d x r h1 h2 hwr (by omega) hq.1 (Nat.le_trans (Nat.add_le_add_left (ndb_mono (by omega)) _) hq.2) ?_).mono (by omega) fun _ _ h => h
   refine Nat.le_trans (Nat.add_le_add_left (ndb_mono ?_) _) hq.2
   rcases opT_cases r with e | ⟨op, ho, e, _⟩
   ·omega
   ·rw [e]
    have := lvlS_bound ho
    simp only; omega
  ·rw [pLoop]
   split
   ·exact .ok (by omega) hw ⟨hx, hd, by assumption⟩
   ·rename_i hlt
    rcases opT_cases l with e | ⟨op, hop, e, hl0⟩
    ·omega
    ·have hb := lvlS_bound hop
     rw [e] at hlt hd2 ⊢
     simp only at hlt hd2 ⊢
     refine (he (lvlS op) d l.tail hb.2 h2 hw.tail (by simp; omega)).bind fun y r hr hwr hq => ?_
     simp at hr
     have hn : nd (.bin op x y) = max (ndb x (lvlS op) (nd x)) (ndb y (lvlS op + 1) (nd y)) := rfl
     have hq2 := hq.2.1
     have hq3 := hq.2.2
     have hlv : lvlX (.bin op x y) = lvlS op := rfl
     refine (hl lvl d (.bin op x y) r h1 h2 hwr (by omega) ⟨hop, hx, hq.1⟩ ?_ ?_).mono (by omega) fun _ _ h => h
     ·rw [ndb_no (by rw [hlv]; omega), hn]
      omega
     ·rw [ndb_no (by rw [hlv]; omega), hn]
      omega
  ·rw [pUnary]
   have hun : ∀ op, (op = 13 ∨ op = 14) → ∀ s, isT l s = true → Snd l.length (fun x _ => UQ 6 d x) (if d = 16 then .bad else (pUnary f (d + 1) l.tail).bind fun x r => .ok (.un op x) r) := by
    intro op hop s hi
    have := isT_pos hi
    split
    ·trivial
    ·refine (hu (d + 1) l.tail (by omega) hw.tail (by simp; omega)).bind fun x r hr hwr hq => ?_
     simp at hr
     refine .ok (by omega) hwr ⟨⟨hop, hq.1⟩, ?_⟩
     have hn : nd (.un op x) = ndb x 6 (nd x) + 1 := rfl
     have hq2 := hq.2
     rw [ndb_no (show 6 ≤ lvlX (.un op x) from Nat.le_refl _), hn]
     omega
   split
   ·exact hun 13 (.inl rfl) _ (by assumption)
   ·split
    ·exact hun 14 (.inr rfl) _ (by assumption)
    ·exact (ho d l h2 hw (by omega)).mono (Nat.le_refl _) fun _ _ h => ⟨h.1, Nat.le_trans (Nat.add_le_add_left (ndb_mono (by omega)) _) h.2⟩
  ·rw [pOperand]
   cases hv : pLit l with
   | some v =>
    have := lit_snd hw hv
    simp only
    exact .ok (by simp; omega) hw.tail ⟨this.1, by rw [ndb_no (show 7 ≤ lvlX (.val v) from Nat.le_refl _)]; exact h2⟩
   | none =>
    simp only
    have hleaf : ∀ {x : Ex}, lvlX x = 7 → okX x → d + nd x ≤ 16 → UQ 7 d x := fun h1 h2 h3 => ⟨h2, by rw [ndb_no (by rw [h1]; exact Nat.le_refl _)]; exact h3⟩
    split
    ·refine (around_snd hw (by omega) (Q := fun x => okX x ∧ d + 1 + nd x ≤ 16) fun hd r hr hwr => (he0 (d + 1) r (by omega) hwr (by omega)).mono (by omega) fun _ _ h => h).mono (Nat.le_refl _) fun x r h => ?_
     refine ⟨h.2.1, ?_⟩
     have := h.2.2
     unfold ndb
     split <;> omega
    ·split
     ·rename_i hi
      have := isT_pos hi
      refine (around_snd hw.tail (by omega) (Q := fun x => UQ 7 d x) fun hd r hr hwr => ?_).mono (by simp) fun x r h => h.2
      simp at hr
      refine (name_snd hwr).bind fun n r1 hr1 hw1 hn => ?_
      refine (want_snd hw1 _).bind fun _ r2 hr2 hw2 _ => ?_
      refine (he0 (d + 1) r2 (by omega) hw2 (by omega)).bind fun a r3 hr3 hw3 ha => ?_
      have := ha.2
      exact .ok (by omega) hw3 (hleaf rfl ⟨hn, ha.1⟩ (show d + (nd a + 1) ≤ 16 by omega))
     ·split
      ·rename_i hi
       have := isT_pos hi
       refine (around_snd hw.tail (by omega) (Q := fun x => UQ 7 d x) fun hd r hr hwr => ?_).mono (by simp) fun x r h => h.2
       simp at hr
       refine (name_snd hwr).bind fun n r1 hr1 hw1 hn => ?_
       refine (want_snd hw1 _).bind fun _ r2 hr2 hw2 _ => ?_
       refine (name_snd hw2).bind fun c r3 hr3 hw3 hc => ?_
       refine (want_snd hw3 _).bind fun _ r4 hr4 hw4 _ => ?_
       refine (he0 (d + 1) r4 (by omega) hw4 (by omega)).bind fun a r5 hr5 hw5 ha => ?_
       refine (want_snd hw5 _).bind fun _ r6 hr6 hw6 _ => ?_
       refine (he0 (d + 1) r6 (by omega) hw6 (by omega)).bind fun b r7 hr7 hw7 hb => ?_
       have := ha.2
       have := hb.2
       exact .ok (by omega) hw7 (hleaf rfl ⟨hn, hc, ha.1, hb.1⟩ (show d + (max (nd a) (nd b) + 1) ≤ 16 by omega))
      ·split
       ·rename_i hi
        have := isT_pos hi
        refine (around_snd hw.tail (by omega) (Q := fun x => UQ 7 d x) fun hd r hr hwr => ?_).mono (by simp) fun x r h => h.2
        simp at hr
        refine (name_snd hwr).bind fun n r1 hr1 hw1 hn => ?_
        refine (want_snd hw1 _).bind fun _ r4 hr4 hw4 _ => ?_
        refine (he0 (d + 1) r4 (by omega) hw4 (by omega)).bind fun a r5 hr5 hw5 ha => ?_
        refine (want_snd hw5 _).bind fun _ r6 hr6 hw6 _ => ?_
        refine (he0 (d + 1) r6 (by omega) hw6 (by omega)).bind fun b r7 hr7 hw7 hb => ?_
        have := ha.2
        have := hb.2
        exact .ok (by omega) hw7 (hleaf rfl ⟨hn, ha.1, hb.1⟩ (show d + (max (nd a) (nd b) + 1) ≤ 16 by omega))
       ·refine (name_snd hw).bind fun n r hr hwr hn => ?_
        split
        ·refine (around_snd hwr (by omega) (Q := fun x => okX x ∧ d + 1 + nd x ≤ 16) fun hd r1 hr1 hw1 => (he0 (d + 1) r1 (by omega) hw1 (by omega)).mono (by omega) fun _ _ h => h).bind fun k r2 hr2 hw2 hk => ?_
         refine (want_snd hw2 _).bind fun _ r3 hr3 hw3 _ => ?_
         refine (name_snd hw3).bind fun c r4 hr4 hw4 hc => ?_
         have := hk.2.2
         exact .ok (by omega) hw4 (hleaf rfl ⟨hn, hc, hk.2.1⟩ (show d + (nd k + 1) ≤ 16 by omega))
        ·exact .ok (by omega) hwr (hleaf rfl hn (show d + 0 ≤ 16 by omega))
theorem whole_snd {f d : Nat} {l : List Tok} (hd : d ≤ 16) (hw : AllW l) (hf : 4 * l.length + 3 ≤ f) : Snd l.length (fun x _ => okX x ∧ d + nd x ≤ 16) (pExpr f 0 d l) := ((expr_snd f).1 0 d l (by omega) hd hw hf).mono (Nat.le_refl _) fun _ _ h => h.u
theorem line_snd {f d : Nat} {l : List Tok} (hd : d ≤ 16) (hw : AllW l) (hf : 4 * l.length + 3 ≤ f) : Snd l.length (fun x _ => okX x ∧ d + nd x ≤ 16) (pLine f d l) := by
 refine (whole_snd hd hw hf).bind fun x r hr hwr hx => ?_
 refine (want_snd hwr _).bind fun _ r2 hr2 hw2 _ => ?_
 exact .ok (by omega) hw2 hx
theorem key_snd {f d : Nat} {l : List Tok} (hd : d ≤ 16) (hw : AllW l) (hf : 4 * l.length + 3 ≤ f) : Snd l.length (fun x _ => okX x ∧ d + (nd x + 1) ≤ 16) (pKey f d l) :=
 (around_snd hw (by omega) (Q := fun x => okX x ∧ d + 1 + nd x ≤ 16) fun hd r hr hwr => (whole_snd (by omega) hwr (by omega)).mono (by omega) fun _ _ h => h).mono (Nat.le_refl _) fun _ _ h => ⟨h.2.1, by have := h.2.2; omega⟩
theorem okB_snoc : ∀ (a : Sts) (s : St), okB a → okS s → okB (a.snoc s)
 | .nil, s, _, h => by rw [Sts.snoc, okB]; exact ⟨h, by rw [okB]; trivial⟩
 | .cons t r, s, h, k => by
  rw [okB] at h
  rw [Sts.snoc, okB]
  exact ⟨h.1, okB_snoc r s h.2 k⟩
theorem ndB_snoc : ∀ (a : Sts) (s : St), ndB (a.snoc s) = max (ndB a) (ndS s)
 | .nil, s => by simp only [Sts.snoc, ndB]; omega
 | .cons t r, s => by rw [Sts.snoc, ndB, ndB, ndB_snoc r s]; omega
def BQ (d : Nat) (b : Sts) : Prop := (okB b ∧ b.len ≤ 24) ∧ d + ndB b ≤ 16
def SQ (d : Nat) (s : St) : Prop := okS s ∧ d + ndS s ≤ 16
theorem stmt_snd : ∀ f, (∀ d l, d ≤ 16 → AllW l → 4 * l.length + 5 ≤ f → Snd l.length (fun s _ => SQ d s) (pStmt f d l)) ∧
  (∀ d l, d ≤ 16 → AllW l → 4 * l.length + 3 ≤ f → Snd l.length (fun b _ => BQ (d + 1) b) (pBlock f d l)) ∧
  (∀ d a l, d ≤ 16 → AllW l → 4 * l.length + 6 ≤ f → BQ d a → Snd (l.length + 1) (fun b _ => BQ d b) (pStmts f d a l))
 | 0 => ⟨fun _ _ _ _ h => by omega, fun _ _ _ _ h => by omega, fun _ _ _ _ _ h => by omega⟩
 | f + 1 => by
  obtain ⟨hs, hb, ht⟩ := stmt_snd f
  refine ⟨fun d l hd hw hf => ?_, fun d l hd hw hf => ?_, fun d a l hd hw hf ha => ?_⟩
  ·rw [pStmt]
   split
   ·rename_i hi
    have := isT_pos hi
    refine (name_snd hw.tail).bind fun n r1 hr1 hw1 hn => ?_
    simp at hr1
    refine (want_snd hw1 _).bind fun _ r2 hr2 hw2 _ => ?_
    refine (line_snd hd hw2 (by omega)).bind fun x r3 hr3 hw3 hx => ?_
    exact .ok (by omega) hw3 ⟨by rw [okS]; exact ⟨hn, hx.1⟩, by rw [ndS]; exact hx.2⟩
   ·split
    ·rename_i hi
     have := isT_pos hi
     refine (name_snd hw.tail).bind fun n r1 hr1 hw1 hn => ?_
     simp at hr1
     refine (key_snd hd hw1 (by omega)).bind fun x r2 hr2 hw2 hx => ?_
     refine (want_snd hw2 _).bind fun _ r3 hr3 hw3 _ => ?_
     exact .ok (by omega) hw3 ⟨by rw [okS]; exact ⟨hn, hx.1⟩, by rw [ndS]; exact hx.2⟩
    ·split
     ·rename_i hi
      have := isT_pos hi
      refine (whole_snd hd hw.tail (by simp; omega)).bind fun x r1 hr1 hw1 hx => ?_
      simp at hr1
      refine (hb d r1 hd hw1 (by omega)).bind fun b r2 hr2 hw2 hb1 => ?_
      have h1 := hb1.2
      have h2 := hx.2
      split
      ·rename_i hi2
       have := isT_pos hi2
       refine (hb d r2.tail hd hw2.tail (by simp; omega)).bind fun e r3 hr3 hw3 he1 => ?_
       simp at hr3
       have h3 := he1.2
       exact .ok (by omega) hw3 ⟨by rw [okS]; exact ⟨hx.1, hb1.1, he1.1⟩, by rw [ndS]; omega⟩
      ·exact .ok (by omega) hw2 ⟨by rw [okS]; exact ⟨hx.1, hb1.1, by rw [okB]; trivial, by rw [Sts.len]; omega⟩, by rw [ndS, ndB]; omega⟩
     ·split
      ·rename_i hi
       have := isT_pos hi
       refine (num_snd hw.tail).bind fun k r1 hr1 hw1 hk => ?_
       simp at hr1
       refine (name_snd hw1).bind fun n r2 hr2 hw2 hn => ?_
       refine (hb d r2 hd hw2 (by omega)).bind fun b r3 hr3 hw3 hb1 => ?_
       have h1 := hb1.2
       exact .ok (by omega) hw3 ⟨by rw [okS]; exact ⟨hk, hn, hb1.1⟩, by rw [ndS]; omega⟩
      ·split
       ·rename_i hi
        have := isT_pos hi
        refine (name_snd hw.tail).bind fun n r1 hr1 hw1 hn => ?_
        simp at hr1
        refine (want_snd hw1 _).bind fun _ r2 hr2 hw2 _ => ?_
        refine (name_snd hw2).bind fun t r3 hr3 hw3 htn => ?_
        refine (want_snd hw3 _).bind fun _ r4 hr4 hw4 _ => ?_
        refine (whole_snd hd hw4 (by omega)).bind fun lo r5 hr5 hw5 hlo => ?_
        refine (want_snd hw5 _).bind fun _ r6 hr6 hw6 _ => ?_
        refine (whole_snd hd hw6 (by omega)).bind fun hi r7 hr7 hw7 hhi => ?_
        refine (want_snd hw7 _).bind fun _ r8 hr8 hw8 _ => ?_
        refine (num_snd hw8).bind fun k r9 hr9 hw9 hk => ?_
        refine (hb d r9 hd hw9 (by omega)).bind fun b r10 hr10 hw10 hb1 => ?_
        have h1 := hb1.2
        have h2 := hlo.2
        have h3 := hhi.2
        exact .ok (by omega) hw10 ⟨by rw [okS]; exact ⟨⟨hn, htn⟩, ⟨hlo.1, hhi.1⟩, hk, hb1.1⟩, by rw [ndS]; omega⟩
       ·split
        ·rename_i hi
         have := isT_pos hi
         refine (want_snd hw.tail _).bind fun _ r1 hr1 hw1 _ => ?_
         simp at hr1
         exact .ok (by omega) hw1 ⟨by rw [okS]; trivial, by rw [ndS]; omega⟩
        ·split
         ·rename_i hi
          have := isT_pos hi
          refine (line_snd hd hw.tail (by simp; omega)).bind fun x r1 hr1 hw1 hx => ?_
          simp at hr1
          exact .ok (by omega) hw1 ⟨by rw [okS]; exact hx.1, by rw [ndS]; exact hx.2⟩
         ·refine (name_snd hw).bind fun n r1 hr1 hw1 hn => ?_
          split
          ·refine (key_snd hd hw1 (by omega)).bind fun k r2 hr2 hw2 hk => ?_
           refine (want_snd hw2 _).bind fun _ r3 hr3 hw3 _ => ?_
           refine (name_snd hw3).bind fun c r4 hr4 hw4 hc => ?_
           refine (want_snd hw4 _).bind fun _ r5 hr5 hw5 _ => ?_
           refine (line_snd hd hw5 (by omega)).bind fun x r6 hr6 hw6 hx => ?_
           have h1 := hk.2
           have h2 := hx.2
           exact .ok (by omega) hw6 ⟨by rw [okS]; exact ⟨hn, hc, hk.1, hx.1⟩, by rw [ndS]; omega⟩
          ·refine (want_snd hw1 _).bind fun _ r2 hr2 hw2 _ => ?_
           refine (line_snd hd hw2 (by omega)).bind fun x r3 hr3 hw3 hx => ?_
           exact .ok (by omega) hw3 ⟨by rw [okS]; exact ⟨hn, hx.1⟩, by rw [ndS]; exact hx.2⟩
  ·rw [pBlock]
   refine (around_snd hw (by omega) (Q := fun b => BQ (d + 1) b) fun hd r hr hwr => (ht (d + 1) .nil r (by omega) hwr (by omega) ?_).mono (Nat.le_refl _) fun _ _ h => h).mono (Nat.le_refl _) fun _ _ h => h.2
   exact ⟨⟨by rw [okB]; trivial, by rw [Sts.len]; omega⟩, by rw [ndB]; omega⟩
  ·rw [pStmts]
   split
   ·exact .ok (by omega) hw ha
   ·refine (room_snd hw _ _).bind fun _ r hr hwr hq => ?_
    obtain ⟨hq, rfl⟩ := hq
    refine (hs d r hd hwr (by omega)).bind fun s r2 hr2 hw2 hs1 => ?_
    refine (ht d (a.snoc s) r2 hd hw2 (by omega) ⟨⟨okB_snoc _ _ ha.1.1 hs1.1, by rw [Sts.snoc_len]; omega⟩, ?_⟩).mono (by omega) fun _ _ h => h
    have h1 := hs1.2
    have h2 := ha.2
    rw [ndB_snoc]; omega
theorem typ_snd {l : List Tok} (h : AllW l) : Snd l.length (fun (t : Int × Int) _ => (t.1 = 1 ∧ t.2 = 0) ∨ (t.1 = 2 ∧ t.2 = 0) ∨ (t.1 = 3 ∧ 1 ≤ t.2 ∧ t.2 ≤ 32)) (pTyp l) := by
 unfold pTyp
 split
 ·rename_i hi
  have := isT_pos hi
  exact .ok (by simp; omega) h.tail (.inl ⟨rfl, rfl⟩)
 ·split
  ·rename_i hi
   have := isT_pos hi
   exact .ok (by simp; omega) h.tail (.inr (.inl ⟨rfl, rfl⟩))
  ·refine (want_snd h _).bind fun _ r1 hr1 hw1 _ => ?_
   refine (num_snd hw1).bind fun k r2 hr2 hw2 hk => ?_
   split
   ·exact .ok (by omega) hw2 (.inr (.inr ⟨rfl, by assumption⟩))
   ·trivial
theorem col_snd {l : List Tok} (h : AllW l) : Snd l.length (fun c _ => okC c) (pCol l) := by
 refine (name_snd h).bind fun n r1 hr1 hw1 hn => ?_
 refine (typ_snd hw1).bind fun t r2 hr2 hw2 ht => ?_
 exact .ok (by omega) hw2 ⟨hn, ht⟩
theorem roomN_snd {l : List Tok} (h : AllW l) (n most : Nat) : Snd (l.length + 1) (fun _ r => r = l ∧ (isN l = true → n < most)) (if isN l then room n most l else .ok () l) := by
 split
 ·refine (room_snd h n most).mono (Nat.le_refl _) fun _ _ h => ⟨h.2, fun _ => h.1⟩
 ·rename_i hn
  exact .ok (by omega) h ⟨rfl, fun h => absurd h hn⟩
theorem col_isN {l : List Tok} {c : Cl} {r : List Tok} (h : pCol l = .ok c r) : isN l = true := by
 cases l with
 | nil => cases h
 | cons t r1 =>
  unfold pCol pName at h
  simp only at h
  split at h
  ·rename_i hh
   show (decide (t.1 = 1) && isNameL t.2.1) = true
   rw [hh.2, decide_eq_true hh.1]; rfl
  ·cases h
theorem colN_snd {l : List Tok} (h : AllW l) : Snd l.length (fun c _ => okC c ∧ isN l = true) (pCol l) := by
 have := col_snd h
 cases hp : pCol l with
 | oof => rw [hp] at this; exact this
 | bad => trivial
 | ok a r => rw [hp] at this; exact ⟨this.1, this.2.1, this.2.2, col_isN hp⟩
theorem cols_snd : ∀ f a l, AllW l → l.length + 1 ≤ f → (∀ c ∈ a, okC c) → a.length ≤ 8 → Snd l.length (fun b _ => b.length ≤ 8 ∧ ∀ c ∈ b, okC c) (pCols f a l)
 | 0, _, _, _, h, _, _ => by omega
 | f + 1, a, l, hw, hf, ha, hn => by
  rw [pCols]
  split
  ·rename_i hi
   have := isT_pos hi
   exact .ok (by simp; omega) hw.tail ⟨hn, ha⟩
  ·refine (roomN_snd hw _ _).bind fun _ r hr hwr hq => ?_
   obtain ⟨rfl, hq⟩ := hq
   refine (colN_snd hwr).bind fun c r2 hr2 hw2 hc => ?_
   refine (want_snd hw2 _).bind fun _ r3 hr3 hw3 _ => ?_
   refine (cols_snd f (a ++ [c]) r3 hw3 (by omega) (fun x hx => ?_) ?_).mono (by omega) fun _ _ h => h
   ·rcases List.mem_append.1 hx with e | e
    ·exact ha x e
    ·rw [List.mem_singleton.1 e]; exact hc.1
   ·have := hq hc.2
    simp; omega
theorem params_snd : ∀ f a l, AllW l → l.length + 1 ≤ f → (∀ c ∈ a, okC c) → a.length ≤ 6 → Snd (l.length + 1) (fun b _ => b.length ≤ 6 ∧ ∀ c ∈ b, okC c) (pParams f a l)
 | 0, _, _, _, h, _, _ => by omega
 | f + 1, a, l, hw, hf, ha, hn => by
  rw [pParams]
  split
  ·rename_i hi
   have := isT_pos hi
   refine (roomN_snd hw.tail _ _).bind fun _ r hr hwr hq => ?_
   obtain ⟨rfl, hq⟩ := hq
   simp at hr
   refine (colN_snd hwr).bind fun c r2 hr2 hw2 hc => ?_
   simp at hr2
   refine (params_snd f (a ++ [c]) r2 hw2 (by omega) (fun x hx => ?_) ?_).mono (by omega) fun _ _ h => h
   ·rcases List.mem_append.1 hx with e | e
    ·exact ha x e
    ·rw [List.mem_singleton.1 e]; exact hc.1
   ·have := hq hc.2
    simp; omega
  ·exact .ok (by omega) hw ⟨hn, ha⟩
theorem table_snd {f : Nat} {l : List Tok} (hw : AllW l) (hf : l.length + 1 ≤ f) : Snd l.length (fun t _ => okT t) (pTable f l) := by
 refine (want_snd hw _).bind fun _ r1 hr1 hw1 _ => ?_
 refine (name_snd hw1).bind fun n r2 hr2 hw2 hn => ?_
 refine (want_snd hw2 _).bind fun _ r3 hr3 hw3 _ => ?_
 refine (num_snd hw3).bind fun k r4 hr4 hw4 hk => ?_
 refine (want_snd hw4 _).bind fun _ r5 hr5 hw5 _ => ?_
 refine (cols_snd f [] r5 hw5 (by omega) (fun _ h => by cases h) (by simp)).bind fun c r6 hr6 hw6 hc => ?_
 exact .ok (by omega) hw6 ⟨hn, hk, hc⟩
theorem proc_snd {f : Nat} {l : List Tok} (hw : AllW l) (hf : 4 * l.length + 3 ≤ f) : Snd l.length (fun t _ => okP t) (pProc f l) := by
 refine (want_snd hw _).bind fun _ r1 hr1 hw1 _ => ?_
 refine (name_snd hw1).bind fun n r2 hr2 hw2 hn => ?_
 refine (want_snd hw2 _).bind fun _ r3 hr3 hw3 _ => ?_
 have hps : Snd (r3.length + 1) (fun b _ => b.length ≤ 6 ∧ ∀ c ∈ b, okC c) (if isT r3 [41] then Res.ok [] r3 else (pCol r3).bind fun c r => pParams f [c] r) := by
  split
  ·exact .ok (by omega) hw3 ⟨by simp, fun _ h => by cases h⟩
  ·refine (col_snd hw3).bind fun c r4 hr4 hw4 hc => ?_
   exact (params_snd f [c] r4 hw4 (by omega) (fun x hx => by rw [List.mem_singleton.1 hx]; exact hc) (by simp)).mono (by omega) fun _ _ h => h
 refine hps.bind fun ps r4 hr4 hw4 hps => ?_
 refine (want_snd hw4 _).bind fun _ r5 hr5 hw5 _ => ?_
 refine ((stmt_snd f).2.1 0 r5 (by omega) hw5 (by omega)).bind fun b r6 hr6 hw6 hb => ?_
 have := hb.2
 exact .ok (by omega) hw6 ⟨hn, hps, hb.1, by show ndB b + 1 ≤ 16; omega⟩
theorem tables_snd : ∀ f a l, AllW l → l.length + 2 ≤ f → (∀ t ∈ a, okT t) → a.length ≤ 8 → Snd (l.length + 1) (fun b _ => b.length ≤ 8 ∧ ∀ t ∈ b, okT t) (pTables f a l)
 | 0, _, _, _, h, _, _ => by omega
 | f + 1, a, l, hw, hf, ha, hn => by
  rw [pTables]
  split
  ·refine (room_snd hw _ _).bind fun _ r hr hwr hq => ?_
   obtain ⟨hq, rfl⟩ := hq
   refine (table_snd hwr (by omega)).bind fun c r2 hr2 hw2 hc => ?_
   refine (tables_snd f (a ++ [c]) r2 hw2 (by omega) (fun x hx => ?_) (by simp; omega)).mono (by omega) fun _ _ h => h
   rcases List.mem_append.1 hx with e | e
   ·exact ha x e
   ·rw [List.mem_singleton.1 e]; exact hc
  ·exact .ok (by omega) hw ⟨hn, ha⟩
theorem procs_snd : ∀ f a l, AllW l → 4 * l.length + 4 ≤ f → (∀ t ∈ a, okP t) → a.length ≤ 8 → Snd (l.length + 1) (fun b _ => b.length ≤ 8 ∧ ∀ t ∈ b, okP t) (pProcs f a l)
 | 0, _, _, _, h, _, _ => by omega
 | f + 1, a, l, hw, hf, ha, hn => by
  rw [pProcs]
  split
  ·refine (room_snd hw _ _).bind fun _ r hr hwr hq => ?_
   obtain ⟨hq, rfl⟩ := hq
   refine (proc_snd hwr (by omega)).bind fun c r2 hr2 hw2 hc => ?_
   refine (procs_snd f (a ++ [c]) r2 hw2 (by omega) (fun x hx => ?_) (by simp; omega)).mono (by omega) fun _ _ h => h
   rcases List.mem_append.1 hx with e | e
   ·exact ha x e
   ·rw [List.mem_singleton.1 e]; exact hc
  ·exact .ok (by omega) hw ⟨hn, ha⟩
theorem work_snd {f : Nat} {l : List Tok} (hw : AllW l) (hf : 4 * l.length + 8 ≤ f) : Snd (l.length + 1) (fun w r => okW w ∧ r = []) (pWork f l) := by
 refine (tables_snd f [] l hw (by omega) (fun _ h => by cases h) (by simp)).bind fun t r hr hwr ht => ?_
 refine (procs_snd f [] r hwr (by omega) (fun _ h => by cases h) (by simp)).bind fun p r2 hr2 hw2 hp => ?_
 split
 ·rename_i he
  exact .ok (by omega) hw2 ⟨⟨ht, hp⟩, he⟩
 ·trivial
end Go.Proofs.YtnbmpfdffoidaaaGreat.Y
