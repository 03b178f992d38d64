/- Plain laws of lexS: texts one behind the other, texts printed. No program in sight. -/
import Derived.Test.YtpodniljpinigaaLexSame
import Derived.Test.YtpodniljpinigaaLexAll
namespace Go.Proofs.Ytpodniljpinigaa.X
open Go.RowKit O V S

theorem tokL_off (v : List UInt8) : (tokL v).off ≤ v.length := by
  match v with
  | [] => simp [tokL]
  | c :: r =>
    rw [tokL_cons]
    split
    · split <;> simp
    · split
      · split <;> simp
      · split
        · cases hq : quoS ((c :: r).drop 1) 1 ⟨0, [], none⟩ with
          | none => unfold quoL; rw [hq]; simp
          | some Q =>
            cases hb : Q.bad with
            | some k =>
              rw [quoL_bad hq hb]
              have : ∀ (n : Nat) (l : List UInt8), l.length ≤ n → ∀ (k : Nat) (q Q : Quo) (b : Nat), (∀ b', q.bad = some b' → b' ≤ k) → quoS l k q = some Q → Q.bad = some b → b ≤ k + l.length := by
                intro n
                induction n with
                | zero =>
                  intro l hl k q Q b _ h _
                  cases l with
                  | nil => rw [quoS_nil] at h; cases h
                  | cons _ _ => simp at hl
                | succ n ih =>
                  intro l hl k q Q b hqb h hbb
                  match l, hl with
                  | [], _ => rw [quoS_nil] at h; cases h
                  | x :: l, hl =>
                    simp at hl
                    rw [quoS_cons] at h
                    split at h
                    · cases h; have := hqb b hbb; simp; omega
                    · split at h
                      · match l, hl with
                        | [], _ => cases h
                        | d :: r, hl =>
                          have := ih r (by simp at hl; omega) (k + 2) _ _ b ?_ h hbb
                          · simp; omega
                          · intro b' hb'
                            cases hqq : q.bad with
                            | some b0 => simp [orE, hqq] at hb'; have := hqb b0 hqq; omega
                            | none => simp [orE, hqq] at hb'; omega
                      · have := ih l hl (k + 1) _ _ b ?_ h hbb
                        · simp; omega
                        · intro b' hb'
                          cases hqq : q.bad with
                          | some b0 => simp [orE, hqq] at hb'; have := hqb b0 hqq; omega
                          | none => simp [orE, hqq] at hb'; omega
              have := this _ _ (Nat.le_refl _) 1 ⟨0, [], none⟩ Q k (by simp) hq hb
              simp at this ⊢
              omega
            | none =>
              rw [quoL_ok hq hb]
              split <;> simp
        · split <;> simp
/-- The tokens of a text, but for their places; the first error; how many bytes stand behind it. -/
inductive LexU : List UInt8 → List (Int × List UInt8 × Val) → Int → Nat → Prop
  | fin {u : List UInt8} (h : skip u = []) : LexU u [] 0 0
  | err {u v : List UInt8} (h : skip u = v) (hv : v ≠ []) (he : (tokL v).e ≠ 0) : LexU u [] (tokL v).e (v.length - (tokL v).off)
  | tok {u v : List UInt8} {l : List (Int × List UInt8 × Val)} {e : Int} {o : Nat} (h : skip u = v) (hv : v ≠ []) (he : (tokL v).e = 0) (hr : LexU (v.drop (tokL v).n) l e o) : LexU u (((tokL v).k, v.take (tokL v).n, (tokL v).v) :: l) e o
theorem LexU.congr {u u' : List UInt8} {l : List (Int × List UInt8 × Val)} {e : Int} {o : Nat} (h : LexU u l e o) (hs : skip u' = skip u) : LexU u' l e o := by
  cases h with
  | fin h => exact .fin (hs.trans h)
  | err h hv he => exact .err (hs.trans h) hv he
  | tok h hv he hr => exact .tok (hs.trans h) hv he hr
theorem LexU.det {u : List UInt8} {l : List (Int × List UInt8 × Val)} {e : Int} {o : Nat} (h : LexU u l e o) : ∀ {l' : List (Int × List UInt8 × Val)} {e' : Int} {o' : Nat}, LexU u l' e' o' → l = l' ∧ e = e' ∧ o = o' := by
  induction h with
  | fin h =>
    intro l' e' o' k
    cases k with
    | fin _ => exact ⟨rfl, rfl, rfl⟩
    | err h' hv _ => exact absurd (h'.symm.trans h) hv
    | tok h' hv _ _ => exact absurd (h'.symm.trans h) hv
  | err h hv he =>
    intro l' e' o' k
    cases k with
    | fin h' => exact absurd (h.symm.trans h') hv
    | err h' _ _ => have := h.symm.trans h'; subst this; exact ⟨rfl, rfl, rfl⟩
    | tok h' _ he' _ => have := h.symm.trans h'; subst this; exact absurd he' he
  | tok h hv he _ ih =>
    intro l' e' o' k
    cases k with
    | fin h' => exact absurd (h.symm.trans h') hv
    | err h' _ he' => have := h.symm.trans h'; subst this; exact absurd he he'
    | tok h' _ _ hr' =>
      have := h.symm.trans h'; subst this
      obtain ⟨e1, e2, e3⟩ := ih hr'
      exact ⟨by rw [e1], e2, e3⟩
theorem lexU_of (s : List UInt8) : ∀ f i, i ≤ s.length → s.length + 1 ≤ f + i → ∃ o, LexU (s.drop i) ((lexS s f i).1.map core) (lexS s f i).2.1 o ∧ ((lexS s f i).2.1 ≠ 0 → (lexS s f i).2.2 + o = s.length)
  | 0, i, hi, hf => by omega
  | f + 1, i, hi, hf => by
    obtain ⟨hs1, hs2, hs3⟩ := skip_at hi
    obtain ⟨j, hj⟩ : ∃ j, s.length - (skip (s.drop i)).length = j := ⟨_, rfl⟩
    rw [hj] at hs1 hs2 hs3
    by_cases hend : j = s.length
    · have := lex_end (f := f) (hj.trans hend)
      rw [this]
      refine ⟨0, .fin ?_, fun h => absurd rfl h⟩
      rw [hs1, hend, List.drop_length]
    · have hlt : j < s.length := by omega
      have hv : s.drop j ≠ [] := by
        intro e; have := congrArg List.length e; simp at this; omega
      by_cases he : (tokL (s.drop j)).e = 0
      · rw [lex_ok (f := f) hi hj hlt he]
        have hp := tokL_pos _ he
        rw [List.length_drop] at hp
        obtain ⟨o, h1, h2⟩ := lexU_of s f (j + (tokL (s.drop j)).n) (by omega) (by omega)
        rw [← List.drop_drop] at h1
        exact ⟨o, .tok hs1 hv he h1, h2⟩
      · rw [lex_err (f := f) hi hj hlt he]
        have := tokL_off (s.drop j)
        rw [List.length_drop] at this
        exact ⟨_, .err hs1 hv he, fun _ => by simp only [List.length_drop]; omega⟩
/-- What lexS says, out of a text's tokens. -/
theorem LexU.lex {s : List UInt8} {l : List (Int × List UInt8 × Val)} {e : Int} {o : Nat} (h : LexU s l e o) : (lexS s (s.length + 1) 0).1.map core = l ∧ (lexS s (s.length + 1) 0).2.1 = e ∧ (e ≠ 0 → (lexS s (s.length + 1) 0).2.2 + o = s.length) := by
  obtain ⟨o', h1, h2⟩ := lexU_of s (s.length + 1) 0 (by omega) (by omega)
  obtain ⟨e1, e2, e3⟩ := LexU.det h1 h
  exact ⟨e1, e2, fun he => by rw [← e3]; exact h2 (by rw [e2]; exact he)⟩
theorem LexU.of_lex (s : List UInt8) : ∃ o, LexU s ((lexS s (s.length + 1) 0).1.map core) (lexS s (s.length + 1) 0).2.1 o ∧ ((lexS s (s.length + 1) 0).2.1 ≠ 0 → (lexS s (s.length + 1) 0).2.2 + o = s.length) :=
  lexU_of s (s.length + 1) 0 (by omega) (by omega)

theorem while_app (t : List UInt8) : ∀ r : List UInt8, (r ++ 10 :: t).dropWhile noteC = r.dropWhile noteC ++ 10 :: t
  | [] => by simp [noteC]
  | c :: r => by
    rw [List.cons_append, List.dropWhile_cons, List.dropWhile_cons]
    split
    · exact while_app t r
    · rfl
theorem skip_app (t : List UInt8) : ∀ (n : Nat) (u : List UInt8), u.length ≤ n → skip (u ++ 10 :: t) = if skip u = [] then skip t else skip u ++ 10 :: t
  | _, [], _ => by rw [skip_nil, if_pos rfl, List.nil_append, skip_blank t (by decide)]
  | 0, c :: r, h => by simp at h
  | n + 1, c :: r, h => by
    simp at h
    by_cases h1 : blankC c = true
    · rw [List.cons_append, skip_blank _ h1, skip_blank _ h1, skip_app t n r h]
    · by_cases h2 : c.toNat = 35
      · rw [List.cons_append, skip_note _ h2, skip_note _ h2, while_app, skip_app t n _ (by have := while_len noteC r; omega)]
      · rw [List.cons_append, skip_stop _ (by simpa using h1) h2, skip_stop _ (by simpa using h1) h2, if_neg (by simp)]; rfl
theorem runL_app {p : UInt8 → Bool} {d : UInt8} (hd : p d = false) (t : List UInt8) : ∀ r : List UInt8, runLen p (r ++ d :: t) = runLen p r
  | [] => by simp [runLen, hd]
  | c :: r => by
    rw [List.cons_append, runLen, runLen, runL_app hd t r]
theorem blank_cases {d : UInt8} (h : blankC d = true) : d.toNat = 32 ∨ d.toNat = 9 ∨ d.toNat = 10 ∨ d.toNat = 13 := by
  simpa [blankC] using h
theorem blank_word {d : UInt8} (h : blankC d = true) : wordC d = false ∧ digitC d = false := by
  have := blank_cases h
  constructor
  · simp [wordC, smallC, digitC]; omega
  · simp [digitC]; omega
theorem quo_app (w : List UInt8) : ∀ (n : Nat) (r : List UInt8), r.length ≤ n → ∀ (k : Nat) (q Q : Quo), quoS r k q = some Q → quoS (r ++ w) k q = some Q
  | _, [], _, k, q, Q, h => by rw [quoS_nil] at h; cases h
  | 0, c :: r, h, _, _, _, _ => by simp at h
  | n + 1, c :: r, h, k, q, Q, hq => by
    simp at h
    rw [quoS_cons] at hq
    rw [List.cons_append, quoS_cons]
    split at hq
    · rename_i h1; rw [if_pos h1]; exact hq
    · rename_i h1
      rw [if_neg h1]
      split at hq
      · rename_i h2
        rw [if_pos h2]
        match r, h with
        | [], _ => cases hq
        | d :: r, h => exact quo_app w n r (by simp at h; omega) _ _ _ hq
      · rename_i h2
        rw [if_neg h2]
        exact quo_app w n r h _ _ _ hq
theorem two_blank {c d : UInt8} (h : blankC d = true) : two c.toNat d.toNat = false := by
  have := blank_cases h
  simp [two]; omega
theorem sign_app {d : UInt8} (h : blankC d = true) (t : List UInt8) : ∀ (c : UInt8) (r : List UInt8), signL ((c :: r) ++ d :: t) = signL (c :: r)
  | c, [] => by
    show signL (c :: d :: t) = signL [c]
    have e1 : signL (c :: d :: t) = if two c.toNat d.toNat then 2 else if one c.toNat then 1 else 0 := rfl
    have e2 : signL [c] = if one c.toNat then 1 else 0 := rfl
    rw [e1, e2, two_blank h]; rfl
  | c, x :: r => rfl
theorem tok_app {d : UInt8} (h : blankC d = true) (t v : List UInt8) (hv : v ≠ []) (he : (tokL v).e ≠ 12) : tokL (v ++ d :: t) = tokL v := by
  match v, hv with
  | c :: r, _ =>
    obtain ⟨hw, hd⟩ := blank_word h
    have e1 := runL_app hw t (c :: r)
    have e2 := runL_app hd t (c :: r)
    have e3 := sign_app h t c r
    have hcons : (c :: r) ++ d :: t = c :: (r ++ d :: t) := rfl
    rw [hcons] at e1 e2 e3 ⊢
    rw [tokL_cons] at he
    rw [tokL_cons, tokL_cons, e1, e2, e3]
    split
    · rfl
    · rename_i hs
      rw [if_neg hs] at he
      split
      · have htk : (c :: (r ++ d :: t)).take (runLen digitC (c :: r)) = (c :: r).take (runLen digitC (c :: r)) := by
          rw [← hcons, List.take_append_of_le_length (runLen_le _ _)]
        rw [htk]
      · rename_i hdg
        rw [if_neg hdg] at he
        split
        · rename_i h34
          rw [if_pos h34] at he
          cases hq : quoS ((c :: r).drop 1) 1 ⟨0, [], none⟩ with
          | none => unfold quoL at he; rw [hq] at he; exact absurd rfl he
          | some Q =>
            have hq' := quo_app (d :: t) _ _ (Nat.le_refl _) _ _ _ hq
            unfold quoL
            have : (c :: (r ++ d :: t)).drop 1 = (c :: r).drop 1 ++ d :: t := rfl
            rw [this, hq', hq]
        · rfl
/-- Two texts with a line's end between them. -/
theorem LexU.join {u : List UInt8} {l : List (Int × List UInt8 × Val)} {e : Int} {o : Nat} (h : LexU u l e o) (t : List UInt8) :
    (e = 0 → ∀ {l' : List (Int × List UInt8 × Val)} {e' : Int} {o' : Nat}, LexU t l' e' o' → LexU (u ++ 10 :: t) (l ++ l') e' o') ∧ (e ≠ 0 → e ≠ 12 → LexU (u ++ 10 :: t) l e (o + (t.length + 1))) := by
  induction h with
  | fin h =>
    refine ⟨fun _ l' e' o' k => ?_, fun he => absurd rfl he⟩
    refine k.congr ?_
    rw [skip_app t _ _ (Nat.le_refl _), if_pos h]
  | @err u v h hv he =>
    refine ⟨fun h0 => absurd h0 he, fun _ h12 => ?_⟩
    have hs : skip (u ++ 10 :: t) = v ++ 10 :: t := by rw [skip_app t _ _ (Nat.le_refl _), if_neg (by rw [h]; exact hv), h]
    have ht := tok_app (d := 10) (by decide) t v hv h12
    have := LexU.err hs (by simp) (by rw [ht]; exact he)
    rw [ht] at this
    have ho := tokL_off v
    have e1 : (v ++ 10 :: t).length - (tokL v).off = v.length - (tokL v).off + (t.length + 1) := by simp; omega
    rw [e1] at this
    exact this
  | @tok u v l e o h hv he hr ih =>
    have hs : skip (u ++ 10 :: t) = v ++ 10 :: t := by rw [skip_app t _ _ (Nat.le_refl _), if_neg (by rw [h]; exact hv), h]
    have ht := tok_app (d := 10) (by decide) t v hv (by rw [he]; decide)
    have hp := tokL_pos v he
    have hd : (v ++ 10 :: t).drop (tokL v).n = v.drop (tokL v).n ++ 10 :: t := List.drop_append_of_le_length hp.2
    have htk : (v ++ 10 :: t).take (tokL v).n = v.take (tokL v).n := List.take_append_of_le_length hp.2
    refine ⟨fun h0 l' e' o' k => ?_, fun h0 h12 => ?_⟩
    · have := LexU.tok hs (by simp) (by rw [ht]; exact he) (by rw [ht, hd]; exact ih.1 h0 k)
      rw [ht, htk] at this
      exact this
    · have := LexU.tok hs (by simp) (by rw [ht]; exact he) (by rw [ht, hd]; exact ih.2 h0 h12)
      rw [ht, htk] at this
      exact this
theorem line_app (s t : List UInt8) : ∀ i, i ≤ s.length → lineOf (s ++ t) i = lineOf s i ∧ startOf (s ++ t) i = startOf s i
  | 0, _ => ⟨rfl, rfl⟩
  | i + 1, h => by
    obtain ⟨h1, h2⟩ := line_app s t i (by omega)
    have hg : (s ++ t).getD i 0 = s.getD i 0 := by
      rw [List.getD_eq_getElem?_getD, List.getD_eq_getElem?_getD, List.getElem?_append_left (by omega)]
    unfold lineOf startOf
    rw [hg, h1, h2]
    exact ⟨rfl, rfl⟩

/-! ### a token alone -/
theorem run_take' (p : UInt8 → Bool) : ∀ r : List UInt8, runLen p (r.take (runLen p r)) = runLen p r
  | [] => by simp [runLen]
  | c :: r => by
    cases hc : p c
    · simp [runLen, hc]
    · have e : runLen p (c :: r) = runLen p r + 1 := by simp [runLen, hc]
      rw [e, List.take_succ_cons]
      simp [runLen, hc, run_take' p r]
theorem quo_take : ∀ (n : Nat) (r : List UInt8), r.length ≤ n → ∀ (k : Nat) (q Q : Quo), quoS r k q = some Q → quoS (r.take (Q.n + 1 - k)) k q = some Q
  | _, [], _, k, q, Q, h => by rw [quoS_nil] at h; cases h
  | 0, c :: r, h, _, _, _, _ => by simp at h
  | n + 1, c :: r, h, k, q, Q, hq => by
    simp at h
    have hlt := (qs_lt _ _ (Nat.le_refl _) _ _ _ hq).1
    obtain ⟨m, hm⟩ : ∃ m, Q.n + 1 - k = m + 1 := ⟨Q.n - k, by omega⟩
    rw [hm, List.take_succ_cons, quoS_cons]
    rw [quoS_cons] at hq
    split at hq
    · rename_i h1; rw [if_pos h1]; exact hq
    · rename_i h1
      rw [if_neg h1]
      split at hq
      · rename_i h2
        rw [if_pos h2]
        match r, h with
        | [], _ => cases hq
        | d :: r, h =>
          have h3 := (qs_lt _ _ (Nat.le_refl _) _ _ _ hq).1
          obtain ⟨m', rfl⟩ : ∃ m', m = m' + 1 := ⟨m - 1, by omega⟩
          rw [List.take_succ_cons]
          have := quo_take n r (by simp at h; omega) _ _ _ hq
          rwa [show Q.n + 1 - (k + 2) = m' by omega] at this
      · rename_i h2
        rw [if_neg h2]
        have h3 := (qs_lt _ _ (Nat.le_refl _) _ _ _ hq).1
        have := quo_take n r h _ _ _ hq
        rwa [show Q.n + 1 - (k + 1) = m by omega] at this
theorem tok_alone (v : List UInt8) (he : (tokL v).e = 0) : tokL (v.take (tokL v).n) = tokL v := by
  have hp := tokL_pos v he
  match v with
  | [] => simp
  | c :: r =>
    obtain ⟨m, hm⟩ : ∃ m, (tokL (c :: r)).n = m + 1 := ⟨(tokL (c :: r)).n - 1, by omega⟩
    have hT : (c :: r).take (tokL (c :: r)).n = c :: r.take m := by rw [hm, List.take_succ_cons]
    rw [hT]
    rw [tokL_cons] at he hm ⊢
    rw [tokL_cons]
    split
    · rename_i hs
      rw [if_pos hs] at he hm
      split at he
      · simp at he
      · rename_i h16
        rw [if_neg h16] at hm
        have e1 : (c :: r).take (runLen wordC (c :: r)) = c :: r.take m := by rw [show runLen wordC (c :: r) = m + 1 from hm, List.take_succ_cons]
        have := run_take' wordC (c :: r)
        rw [e1] at this
        rw [this]
    · rename_i hs
      rw [if_neg hs] at he hm
      split
      · rename_i hd
        rw [if_pos hd] at he hm
        split at he
        · rename_i hok
          rw [if_pos hok] at hm
          have e1 : (c :: r).take (runLen digitC (c :: r)) = c :: r.take m := by rw [show runLen digitC (c :: r) = m + 1 from hm, List.take_succ_cons]
          have h2 := run_take' digitC (c :: r)
          rw [e1] at h2
          rw [h2, ← e1, List.take_take, Nat.min_self]
        · simp at he
      · rename_i hd
        rw [if_neg hd] at he hm
        split
        · rename_i h34
          rw [if_pos h34] at he hm
          cases hq : quoS ((c :: r).drop 1) 1 ⟨0, [], none⟩ with
          | none => unfold quoL at he; rw [hq] at he; simp at he
          | some Q =>
            cases hb : Q.bad with
            | some k => rw [quoL_bad hq hb] at he; simp at he
            | none =>
              have h1 := quoL_ok hq hb
              rw [h1] at he hm
              split at he
              · simp at he
              · rename_i hbig
                rw [if_neg hbig] at hm
                have hqt := quo_take _ _ (Nat.le_refl _) _ _ _ hq
                have hmQ : Q.n = m := by simpa using hm
                have e1 : ((c :: r).drop 1).take (Q.n + 1 - 1) = (c :: r.take m).drop 1 := by simp [hmQ]
                rw [e1] at hqt
                rw [h1, quoL_ok hqt hb]
        · rename_i h34
          rw [if_neg h34] at he hm
          split at he
          · simp at he
          · rename_i h0
            rw [if_neg h0] at hm
            have hm' : signL (c :: r) = m + 1 := hm
            have hs2 : signL (c :: r.take m) = signL (c :: r) := by
              match r, m, hm' with
              | [], m, _ => simp
              | d :: r, 0, hm' =>
                have e1 : signL (c :: d :: r) = if two c.toNat d.toNat then 2 else if one c.toNat then 1 else 0 := rfl
                have e2 : signL [c] = if one c.toNat then 1 else 0 := rfl
                rw [e1] at hm'
                show signL [c] = signL (c :: d :: r)
                rw [e1, e2]
                split at hm'
                · omega
                · rename_i h2
                  rw [if_neg h2]
              | d :: r, m + 1, _ => rw [List.take_succ_cons]; rfl
            rw [hs2, if_neg h0]
/-- The texts with a blank between each two. -/
def joinB : List (List UInt8) → List UInt8
  | [] => []
  | [x] => x
  | x :: y :: r => x ++ 32 :: joinB (y :: r)
theorem LexU.print {u : List UInt8} {l : List (Int × List UInt8 × Val)} {e : Int} {o : Nat} (h : LexU u l e o) : e = 0 → LexU (joinB (l.map (·.2.1))) l 0 0 := by
  induction h with
  | fin h => exact fun _ => .fin (by simp [joinB, skip_nil])
  | err h hv he => exact fun h0 => absurd h0 he
  | @tok u v l e o h hv he hr ih =>
    intro h0
    have hp := tokL_pos v he
    have ha := tok_alone v he
    have hlen : (v.take (tokL v).n).length = (tokL v).n := by rw [List.length_take]; omega
    have hsk : ∀ w, skip (v.take (tokL v).n ++ w) = v.take (tokL v).n ++ w := by
      intro w
      rcases skip_stops _ u (Nat.le_refl _) with h1 | ⟨c, r, h1, h2, h3⟩
      · exact absurd (h.symm.trans h1) hv
      · have hvc : v = c :: r := h.symm.trans h1
        obtain ⟨m, hm⟩ : ∃ m, (tokL v).n = m + 1 := ⟨(tokL v).n - 1, by omega⟩
        rw [hm, hvc, List.take_succ_cons, List.cons_append, skip_stop _ h2 h3]
    obtain ⟨x, hxx⟩ : ∃ x, v.take (tokL v).n = x := ⟨_, rfl⟩
    rw [hxx] at ha hlen hsk ⊢
    have hx : x ≠ [] := by intro e; rw [e] at hlen; simp at hlen; omega
    cases l with
    | nil =>
      have h1 := hsk []
      rw [List.append_nil] at h1
      have := LexU.tok (l := []) (e := 0) (o := 0) h1 hx (by rw [ha]; exact he) (by
        rw [ha, List.drop_of_length_le (by omega)]
        exact .fin skip_nil)
      rw [ha, List.take_of_length_le (by omega)] at this
      exact this
    | cons y l =>
      have hb := tok_app (d := 32) (by decide) (joinB (y.2.1 :: l.map (·.2.1))) x hx (by rw [ha, he]; decide)
      rw [ha] at hb
      have := LexU.tok (l := y :: l) (e := 0) (o := 0) (hsk (32 :: joinB (y.2.1 :: l.map (·.2.1)))) (by simp) (by rw [hb]; exact he) (by
        rw [hb, List.drop_append_of_le_length (by omega), List.drop_of_length_le (by omega), List.nil_append]
        exact (ih h0).congr (by rw [skip_blank _ (by decide)]; rfl))
      rw [hb, List.take_append_of_le_length (by omega), List.take_of_length_le (by omega)] at this
      exact this
end Go.Proofs.Ytpodniljpinigaa.X
