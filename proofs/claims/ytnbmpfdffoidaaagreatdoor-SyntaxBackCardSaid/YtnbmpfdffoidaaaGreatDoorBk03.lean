/- Texts of the proof, joined: SynComp2, SynSound, LexPlain. -/
import Derived.Test.YtnbmpfdffoidaaaGreatDoorBk01
import Derived.Test.YtnbmpfdffoidaaaGreatDoorBk02
set_option linter.unusedVariables false
set_option linter.unusedSimpArgs false
set_option maxHeartbeats 8000000
set_option maxRecDepth 100000
namespace Go.Proofs.YtnbmpfdffoidaaaGreatDoor.Y
open O V S
def okNum (n : Int) : Prop := 0 ≤ n ∧ n ≤ 9223372036854775807
mutual
def okS : St → Prop
 | .let_ n e => isNameL n = true ∧ okX e
 | .set n e => isNameL n = true ∧ okX e
 | .put t c k e => isNameL t = true ∧ isNameL c = true ∧ okX k ∧ okX e
 | .del t k => isNameL t = true ∧ okX k
 | .if_ e b els => okX e ∧ (okB b ∧ b.len ≤ 24) ∧ okB els ∧ els.len ≤ 24
 | .loop n name b => okNum n ∧ isNameL name = true ∧ okB b ∧ b.len ≤ 24
 | .each n t lo hi k b => (isNameL n = true ∧ isNameL t = true) ∧ (okX lo ∧ okX hi) ∧ okNum k ∧ okB b ∧ b.len ≤ 24
 | .roll => True
 | .emit e => okX e
def okB : Sts → Prop
 | .nil => True
 | .cons s r => okS s ∧ okB r
end
mutual
def ndS : St → Nat
 | .let_ _ e => nd e
 | .set _ e => nd e
 | .put _ _ k e => max (nd k + 1) (nd e)
 | .del _ k => nd k + 1
 | .if_ e b els => max (nd e) (max (ndB b + 1) (ndB els + 1))
 | .loop _ _ b => ndB b + 1
 | .each _ _ lo hi _ b => max (max (nd lo) (nd hi)) (ndB b + 1)
 | .roll => 0
 | .emit e => nd e
def ndB : Sts → Nat
 | .nil => 0
 | .cons s r => max (ndS s) (ndB r)
end
def Sts.app : Sts → Sts → Sts
 | .nil, b => b
 | .cons s r, b => .cons s (r.app b)
theorem Sts.app_nil : ∀ a : Sts, a.app .nil = a
 | .nil => rfl
 | .cons s r => by rw [Sts.app, Sts.app_nil r]
theorem Sts.snoc_app : ∀ (a : Sts) (s : St) (b : Sts), (a.snoc s).app b = a.app (.cons s b)
 | .nil, _, _ => rfl
 | .cons t r, s, b => by rw [Sts.snoc, Sts.app, Sts.app, Sts.snoc_app r]
theorem Sts.snoc_len : ∀ (a : Sts) (s : St), (a.snoc s).len = a.len + 1
 | .nil, _ => rfl
 | .cons t r, s => by rw [Sts.snoc, Sts.len, Sts.len, Sts.snoc_len r]
theorem pNum_tn (n : Int) (r : List Tok) : pNum (tn n :: r) = .ok n r := rfl
theorem Ev.num {α : Type} (n : Int) (r : List Tok) {g : Nat → Int → List Tok → Res α} {R : Res α} (k : Ev (fun f => g f n r) R) : Ev (fun f => (pNum (tn n :: r)).bind (g f)) R :=
 Ev.bind (p := fun _ => pNum (tn n :: r)) (Ev.of_eq fun _ => pNum_tn n r) k
theorem Ev.whole_ {x : Ex} (h : okX x) {d : Nat} (hd : d + nd x ≤ 16) (s : List UInt8) (hs : binS s = (0, 0)) (hs2 : s ≠ [91]) (r : List Tok) : Ev (fun f => pExpr f 0 d (toks0 x ++ tg s :: r)) (.ok x (tg s :: r)) := (back x h).ahead h hd s hs hs2 r
theorem Ev.line {x : Ex} (h : okX x) {d : Nat} (hd : d + nd x ≤ 16) (r : List Tok) : Ev (fun f => pLine f d (toks0 x ++ tg [59] :: r)) (.ok x r) :=
 Ev.bind (Ev.whole_ h hd [59] (by decide) (by decide) r) (Ev.wantG [59] r (Ev.ok _ _ _))
theorem Ev.key {x : Ex} (h : okX x) {d : Nat} (hd : d + (nd x + 1) ≤ 16) (r : List Tok) : Ev (fun f => pKey f d (tg [91] :: (toks0 x ++ tg [93] :: r))) (.ok x r) :=
 Ev.around (t := tg [91]) (k := fun f d r => pExpr f 0 d r) (by rw [isT_tg]; decide) (by omega) (u := tg [93]) (Ev.whole_ h (by omega) [93] (by decide) (by decide) _) (by rw [isT_tg]; decide)
theorem name_kw {n : List UInt8} (h : isNameL n = true) (r : List Tok) : ((isT (tw n :: r) w_let = false ∧ isT (tw n :: r) w_del = false) ∧ (isT (tw n :: r) w_if = false ∧ isT (tw n :: r) w_loop = false)) ∧ (isT (tw n :: r) w_each = false ∧ isT (tw n :: r) w_rollback = false) ∧ isT (tw n :: r) w_emit = false :=
 ⟨⟨⟨isT_name h (by decide) r, isT_name h (by decide) r⟩, isT_name h (by decide) r, isT_name h (by decide) r⟩, ⟨isT_name h (by decide) r, isT_name h (by decide) r⟩, isT_name h (by decide) r⟩
theorem first_S : ∀ s, okS s → ∃ w r, toksS s = tw w :: r ∧ w ≠ [125] ∧ w ≠ w_else
 | .let_ n e, _ => ⟨_, _, by rw [toksS], by decide, by decide⟩
 | .set n e, h => ⟨_, _, by rw [toksS], name_ne h.1 (by decide), name_ne h.1 (by decide)⟩
 | .put t c k e, h => ⟨_, _, by rw [toksS], name_ne h.1 (by decide), name_ne h.1 (by decide)⟩
 | .del t k, _ => ⟨_, _, by rw [toksS], by decide, by decide⟩
 | .if_ e b els, _ => ⟨_, _, by rw [toksS], by decide, by decide⟩
 | .loop n name b, _ => ⟨_, _, by rw [toksS], by decide, by decide⟩
 | .each n t lo hi k b, _ => ⟨_, _, by rw [toksS], by decide, by decide⟩
 | .roll, _ => ⟨_, _, by rw [toksS], by decide, by decide⟩
 | .emit e, _ => ⟨_, _, by rw [toksS], by decide, by decide⟩
theorem Ev.aroundB {d : Nat} {b : Sts} {r : List Tok} (hd : d + 1 ≤ 16) (h : Ev (fun f => pStmts f (d + 1) .nil (toksB b ++ tg [125] :: r)) (.ok b (tg [125] :: r))) : Ev (fun f => pBlock f d (tg [123] :: (toksB b ++ tg [125] :: r))) (.ok b r) := by
 refine Ev.step (q := fun f => Y.around [123] [125] d (tg [123] :: (toksB b ++ tg [125] :: r)) fun d r => pStmts f d .nil r) (fun f => by rw [pBlock]) ?_
 exact Ev.around (t := tg [123]) (k := fun f d r => pStmts f d .nil r) (by rw [isT_tg]; decide) (by omega) (u := tg [125]) h (by rw [isT_tg]; decide)
mutual
theorem backS : ∀ s, okS s → ∀ d rest, d + ndS s ≤ 16 → isT rest w_else = false → Ev (fun f => pStmt f d (toksS s ++ rest)) (.ok s rest)
  | .let_ n e, h, d, rest, hd, _ => by
    have h : isNameL n = true ∧ okX e := by simpa only [okS] using h
    have hd : d + nd e ≤ 16 := by simpa only [ndS] using hd
    have e1 : toksS (.let_ n e) ++ rest = tw w_let :: tw n :: tg [61] :: (toks0 e ++ tg [59] :: rest) := by simp [toksS]
    rw [e1]
    apply Ev.step
    · intro f; rw [pStmt, isT_tw, if_pos (by decide), List.tail_cons]
    · exact Ev.name h.1 _ (Ev.wantG [61] _ (Ev.bind (Ev.line h.2 hd rest) (Ev.ok _ _ _)))
  | .set n e, h, d, rest, hd, _ => by
    have h : isNameL n = true ∧ okX e := by simpa only [okS] using h
    have hd : d + nd e ≤ 16 := by simpa only [ndS] using hd
    have e1 : toksS (.set n e) ++ rest = tw n :: tg [61] :: (toks0 e ++ tg [59] :: rest) := by simp [toksS]
    obtain ⟨⟨⟨k1, k2⟩, k3, k4⟩, ⟨k5, k6⟩, k7⟩ := name_kw h.1 (tg [61] :: (toks0 e ++ tg [59] :: rest))
    rw [e1]
    apply Ev.step
    · intro f; rw [pStmt, k1, k2, k3, k4, k5, k6, k7]
    · refine Ev.name h.1 _ ?_
      rw [isT_tg, show decide (([61] : List UInt8) = [91]) = false by decide]
      simp only [Bool.false_eq_true, if_false]
      exact Ev.wantG [61] _ (Ev.bind (Ev.line h.2 hd rest) (Ev.ok _ _ _))
  | .put t c k e, h, d, rest, hd, _ => by
    have h : isNameL t = true ∧ isNameL c = true ∧ okX k ∧ okX e := by simpa only [okS] using h
    have hd : d + max (nd k + 1) (nd e) ≤ 16 := by simpa only [ndS] using hd
    have e1 : toksS (.put t c k e) ++ rest = tw t :: (tg [91] :: (toks0 k ++ tg [93] :: (tg [46] :: tw c :: tg [61] :: (toks0 e ++ tg [59] :: rest)))) := by simp [toksS]
    obtain ⟨⟨⟨k1, k2⟩, k3, k4⟩, ⟨k5, k6⟩, k7⟩ := name_kw h.1 (tg [91] :: (toks0 k ++ tg [93] :: (tg [46] :: tw c :: tg [61] :: (toks0 e ++ tg [59] :: rest))))
    rw [e1]
    apply Ev.step
    · intro f; rw [pStmt, k1, k2, k3, k4, k5, k6, k7]
    · refine Ev.name h.1 _ ?_
      rw [isT_tg, show decide (([91] : List UInt8) = [91]) = true by decide]
      simp only [if_true]
      refine Ev.bind (Ev.key h.2.2.1 (by omega) _) ?_
      exact Ev.wantG [46] _ (Ev.name h.2.1 _ (Ev.wantG [61] _ (Ev.bind (Ev.line h.2.2.2 (by omega) rest) (Ev.ok _ _ _))))
  | .del t k, h, d, rest, hd, _ => by
    have h : isNameL t = true ∧ okX k := by simpa only [okS] using h
    have hd : d + (nd k + 1) ≤ 16 := by simpa only [ndS] using hd
    have e1 : toksS (.del t k) ++ rest = tw w_del :: tw t :: (tg [91] :: (toks0 k ++ tg [93] :: (tg [59] :: rest))) := by simp [toksS]
    rw [e1]
    apply Ev.step
    · intro f; rw [pStmt, isT_tw, if_neg (by decide), isT_tw, if_pos (by decide), List.tail_cons]
    · exact Ev.name h.1 _ (Ev.bind (Ev.key h.2 hd _) (Ev.wantG [59] _ (Ev.ok _ _ _)))
  | .if_ e b els, h, d, rest, hd, hr => by
    have h : okX e ∧ (okB b ∧ b.len ≤ 24) ∧ okB els ∧ els.len ≤ 24 := by simpa only [okS] using h
    have hd : d + max (nd e) (max (ndB b + 1) (ndB els + 1)) ≤ 16 := by simpa only [ndS] using hd
    have e1 : toksS (.if_ e b els) ++ rest = tw w_if :: (toks0 e ++ tg [123] :: (toksB b ++ tg [125] :: (elsT els (toksB els) ++ rest))) := by simp [toksS]
    have hb := backB b h.2.1.1 (d + 1) .nil (elsT els (toksB els) ++ rest) (by omega) (by simpa [Sts.len] using h.2.1.2)
    have hb2 := Ev.aroundB (d := d) (by omega) hb
    rw [e1]
    apply Ev.step
    · intro f; rw [pStmt, isT_tw, if_neg (by decide), isT_tw, if_neg (by decide), isT_tw, if_pos (by decide), List.tail_cons]
    · refine Ev.bind (Ev.whole_ h.1 (by omega) [123] (by decide) (by decide) _) (Ev.bind hb2 ?_)
      cases els with
      | nil =>
        rw [show elsT Sts.nil (toksB .nil) ++ rest = rest from rfl, hr]
        exact Ev.ok _ _ _
      | cons s r =>
        have hb := backB (.cons s r) h.2.2.1 (d + 1) .nil rest (by omega) (by simpa [Sts.len] using h.2.2.2)
        have hb2 := Ev.aroundB (d := d) (by omega) hb
        rw [show elsT (Sts.cons s r) (toksB (.cons s r)) ++ rest = tw w_else :: (tg [123] :: (toksB (.cons s r) ++ tg [125] :: rest)) by simp [elsT]]
        rw [isT_tw, show decide (w_else = w_else) = true by decide]
        simp only [if_true, List.tail_cons]
        exact Ev.bind hb2 (Ev.ok _ _ _)
  | .loop n name b, h, d, rest, hd, _ => by
    have h : okNum n ∧ isNameL name = true ∧ okB b ∧ b.len ≤ 24 := by simpa only [okS] using h
    have hd : d + (ndB b + 1) ≤ 16 := by simpa only [ndS] using hd
    have e1 : toksS (.loop n name b) ++ rest = tw w_loop :: tn n :: tw name :: (tg [123] :: (toksB b ++ tg [125] :: rest)) := by simp [toksS]
    have hb := backB b h.2.2.1 (d + 1) .nil rest (by omega) (by simpa [Sts.len] using h.2.2.2)
    have hb2 := Ev.aroundB (d := d) (by omega) hb
    rw [e1]
    apply Ev.step
    · intro f; rw [pStmt, isT_tw, if_neg (by decide), isT_tw, if_neg (by decide), isT_tw, if_neg (by decide), isT_tw, if_pos (by decide), List.tail_cons]
    · exact Ev.num n _ (Ev.name h.2.1 _ (Ev.bind hb2 (Ev.ok _ _ _)))
  | .each n t lo hi k b, h, d, rest, hd, _ => by
    have h : (isNameL n = true ∧ isNameL t = true) ∧ (okX lo ∧ okX hi) ∧ okNum k ∧ okB b ∧ b.len ≤ 24 := by simpa only [okS] using h
    have hd : d + max (max (nd lo) (nd hi)) (ndB b + 1) ≤ 16 := by simpa only [ndS] using hd
    have e1 : toksS (.each n t lo hi k b) ++ rest = tw w_each :: tw n :: tw w_in :: tw t :: tw w_from :: (toks0 lo ++ tw w_to :: (toks0 hi ++ tw w_max :: tn k :: (tg [123] :: (toksB b ++ tg [125] :: rest)))) := by simp [toksS]
    have hb := backB b h.2.2.2.1 (d + 1) .nil rest (by omega) (by simpa [Sts.len] using h.2.2.2.2)
    have hb2 := Ev.aroundB (d := d) (by omega) hb
    rw [e1]
    apply Ev.step
    · intro f; rw [pStmt, isT_tw, if_neg (by decide), isT_tw, if_neg (by decide), isT_tw, if_neg (by decide), isT_tw, if_neg (by decide), isT_tw, if_pos (by decide), List.tail_cons]
    · refine Ev.name h.1.1 _ (Ev.wantW w_in _ (Ev.name h.1.2 _ (Ev.wantW w_from _ ?_)))
      refine Ev.bind ((back lo h.2.1.1).aheadW h.2.1.1 (by omega) w_to (by decide) _) (Ev.wantW w_to _ ?_)
      refine Ev.bind ((back hi h.2.1.2).aheadW h.2.1.2 (by omega) w_max (by decide) _) (Ev.wantW w_max _ ?_)
      exact Ev.num k _ (Ev.bind hb2 (Ev.ok _ _ _))
  | .roll, _, d, rest, _, _ => by
    have e1 : toksS .roll ++ rest = tw w_rollback :: tg [59] :: rest := by simp [toksS]
    rw [e1]
    apply Ev.step
    · intro f; rw [pStmt, isT_tw, if_neg (by decide), isT_tw, if_neg (by decide), isT_tw, if_neg (by decide), isT_tw, if_neg (by decide), isT_tw, if_neg (by decide), isT_tw, if_pos (by decide), List.tail_cons]
    · exact Ev.wantG [59] _ (Ev.ok _ _ _)
  | .emit e, h, d, rest, hd, _ => by
    have h : okX e := by simpa only [okS] using h
    have hd : d + nd e ≤ 16 := by simpa only [ndS] using hd
    have e1 : toksS (.emit e) ++ rest = tw w_emit :: (toks0 e ++ tg [59] :: rest) := by simp [toksS]
    rw [e1]
    apply Ev.step
    · intro f; rw [pStmt, isT_tw, if_neg (by decide), isT_tw, if_neg (by decide), isT_tw, if_neg (by decide), isT_tw, if_neg (by decide), isT_tw, if_neg (by decide), isT_tw, if_neg (by decide), isT_tw, if_pos (by decide), List.tail_cons]
    · exact Ev.bind (Ev.line h hd rest) (Ev.ok _ _ _)
theorem backB : ∀ b, okB b → ∀ d a rest, d + ndB b ≤ 16 → a.len + b.len ≤ 24 → Ev (fun f => pStmts f d a (toksB b ++ tg [125] :: rest)) (.ok (a.app b) (tg [125] :: rest))
  | .nil, _, d, a, rest, _, _ => by
    rw [Sts.app_nil]
    apply Ev.step
    · intro f; rw [show toksB .nil ++ tg [125] :: rest = tg [125] :: rest by simp [toksB], pStmts, if_pos (.inr (by rw [isT_tg]; decide))]
    · exact Ev.ok _ _ _
  | .cons s r, h, d, a, rest, hd, hl => by
    have h : okS s ∧ okB r := by simpa only [okB] using h
    have hd : d + max (ndS s) (ndB r) ≤ 16 := by simpa only [ndB] using hd
    have hl : a.len + (r.len + 1) ≤ 24 := by simpa only [Sts.len] using hl
    obtain ⟨w, t, e1, hw, _⟩ := first_S s h.1
    have e2 : toksB (.cons s r) ++ tg [125] :: rest = toksS s ++ (toksB r ++ tg [125] :: rest) := by simp [toksB]
    have helse : isT (toksB r ++ tg [125] :: rest) w_else = false := by
      cases r with
      | nil => rw [show toksB .nil ++ tg [125] :: rest = tg [125] :: rest by simp [toksB], isT_tg]; decide
      | cons s2 r2 =>
        have h2 : okS s2 ∧ okB r2 := by simpa only [okB] using h.2
        obtain ⟨w2, t2, e2, _, hw2⟩ := first_S s2 h2.1
        rw [show toksB (.cons s2 r2) ++ tg [125] :: rest = tw w2 :: (t2 ++ toksB r2 ++ tg [125] :: rest) by simp [toksB, e2], isT_tw]
        exact decide_eq_false hw2
    rw [e2]
    apply Ev.step
    · intro f
      rw [pStmts, if_neg (by rw [e1]; rintro (e | e); · simp at e
                             · rw [List.cons_append, isT_tw, decide_eq_false hw] at e; cases e), room, if_neg (by omega), bind_ok]
    · refine Ev.bind (backS s h.1 d _ (by omega) helse) ?_
      have := backB r h.2 d (a.snoc s) rest (by omega) (by rw [Sts.snoc_len]; omega)
      rwa [Sts.snoc_app] at this
end
structure okC (c : Cl) : Prop where
 n : isNameL c.name = true
 t : (c.k = 1 ∧ c.m = 0) ∨ (c.k = 2 ∧ c.m = 0) ∨ (c.k = 3 ∧ 1 ≤ c.m ∧ c.m ≤ 32)
theorem pTyp_toks {k m : Int} (h : (k = 1 ∧ m = 0) ∨ (k = 2 ∧ m = 0) ∨ (k = 3 ∧ 1 ≤ m ∧ m ≤ 32)) (r : List Tok) : pTyp (toksT k m ++ r) = .ok (k, m) r := by
 rcases h with ⟨e, e2⟩ | ⟨e, e2⟩ | ⟨e, e2⟩
 ·subst e e2
  rw [show toksT 1 0 ++ r = tw w_int :: r from rfl, pTyp, isT_tw, if_pos (by decide)]; rfl
 ·subst e e2
  rw [show toksT 2 0 ++ r = tw w_bool :: r from rfl, pTyp, isT_tw, if_neg (by decide), isT_tw, if_pos (by decide)]; rfl
 ·subst e
  rw [show toksT 3 m ++ r = tw w_text :: tn m :: r from rfl, pTyp, isT_tw, if_neg (by decide), isT_tw, if_neg (by decide), want_tw, bind_ok, pNum_tn, bind_ok, if_pos e2]
theorem pCol_toks {c : Cl} (h : okC c) (r : List Tok) : pCol (toksC c ++ r) = .ok c r := by
 rw [show toksC c ++ r = tw c.name :: (toksT c.k c.m ++ r) from rfl, pCol, pName_tw h.n, bind_ok, pTyp_toks h.t, bind_ok]
theorem isN_toks {c : Cl} (h : okC c) (r : List Tok) : isN (toksC c ++ r) = true := by
 show (decide ((1 : Int) = 1) && isNameL c.name) = true
 rw [h.n]; rfl
theorem isT_col {c : Cl} (h : okC c) (r : List Tok) (w : List UInt8) (hw : isNameL w = false) : isT (toksC c ++ r) w = false := isT_name h.n hw _
theorem Ev.col {α : Type} {c : Cl} (h : okC c) (r : List Tok) {g : Nat → Cl → List Tok → Res α} {R : Res α} (k : Ev (fun f => g f c r) R) : Ev (fun f => (pCol (toksC c ++ r)).bind (g f)) R :=
 Ev.bind (p := fun _ => pCol (toksC c ++ r)) (Ev.of_eq fun _ => pCol_toks h r) k
theorem backCs : ∀ (l : List Cl), (∀ c ∈ l, okC c) → ∀ a rest, a.length + l.length ≤ 8 → Ev (fun f => pCols f a (l.flatMap (fun c => toksC c ++ [tg [59]]) ++ tg [125] :: rest)) (.ok (a ++ l) rest)
 | [], _, a, rest, _ => by
  rw [List.append_nil]
  apply Ev.step
  ·intro f; rw [List.flatMap_nil, List.nil_append, pCols, isT_tg, if_pos (by decide), List.tail_cons]
  ·exact Ev.ok _ _ _
 | c :: l, h, a, rest, hl => by
  have hc := h c (by simp)
  rw [List.length_cons] at hl
  have e1 : (c :: l).flatMap (fun c => toksC c ++ [tg [59]]) ++ tg [125] :: rest = toksC c ++ (tg [59] :: (l.flatMap (fun c => toksC c ++ [tg [59]]) ++ tg [125] :: rest)) := by simp
  rw [e1]
  apply Ev.step
  ·intro f; rw [pCols, isT_col hc _ _ (by decide), if_neg (by decide), isN_toks hc, if_pos rfl, room, if_neg (by omega), bind_ok]
  ·refine Ev.col hc _ (Ev.wantG [59] _ ?_)
   have := backCs l (fun x hx => h x (by simp [hx])) (a ++ [c]) rest (by simp; omega)
   simpa using this
structure okT (t : Tb) : Prop where
 n : isNameL t.name = true
 r : okNum t.rows
 c : t.cols.length ≤ 8 ∧ ∀ c ∈ t.cols, okC c
theorem backT {t : Tb} (h : okT t) (rest : List Tok) : Ev (fun f => pTable f (toksTb t ++ rest)) (.ok t rest) := by
 have e1 : toksTb t ++ rest = tw w_table :: tw t.name :: tw w_rows :: tn t.rows :: tg [123] :: (t.cols.flatMap (fun c => toksC c ++ [tg [59]]) ++ tg [125] :: rest) := by simp [toksTb]
 rw [e1]
 refine Ev.wantW w_table _ (Ev.name h.n _ (Ev.wantW w_rows _ (Ev.num t.rows _ (Ev.wantG [123] _ ?_))))
 exact Ev.bind (backCs t.cols h.c.2 [] rest (by simpa using h.c.1)) (Ev.ok _ _ _)
theorem backPs : ∀ (l : List Cl), (∀ c ∈ l, okC c) → ∀ a rest, a.length + l.length ≤ 6 → Ev (fun f => pParams f a (l.flatMap (fun c => tg [44] :: toksC c) ++ tg [41] :: rest)) (.ok (a ++ l) (tg [41] :: rest))
 | [], _, a, rest, _ => by
  rw [List.append_nil]
  apply Ev.step
  ·intro f; rw [List.flatMap_nil, List.nil_append, pParams, isT_tg, if_neg (by decide)]
  ·exact Ev.ok _ _ _
 | c :: l, h, a, rest, hl => by
  have hc := h c (by simp)
  rw [List.length_cons] at hl
  have e1 : (c :: l).flatMap (fun c => tg [44] :: toksC c) ++ tg [41] :: rest = tg [44] :: (toksC c ++ (l.flatMap (fun c => tg [44] :: toksC c) ++ tg [41] :: rest)) := by simp
  rw [e1]
  apply Ev.step
  ·intro f; rw [pParams, isT_tg, if_pos (by decide), List.tail_cons, isN_toks hc, if_pos rfl, room, if_neg (by omega), bind_ok]
  ·refine Ev.col hc _ ?_
   have := backPs l (fun x hx => h x (by simp [hx])) (a ++ [c]) rest (by simp; omega)
   simpa using this
structure okP (p : Pc) : Prop where
 n : isNameL p.name = true
 c : p.params.length ≤ 6 ∧ ∀ c ∈ p.params, okC c
 b : (okB p.body ∧ p.body.len ≤ 24) ∧ ndB p.body + 1 ≤ 16
theorem backP {p : Pc} (h : okP p) (rest : List Tok) : Ev (fun f => pProc f (toksP p ++ rest)) (.ok p rest) := by
 have e1 : toksP p ++ rest = tw w_proc :: tw p.name :: tg [40] :: (toksPs p.params ++ tg [41] :: (tg [123] :: (toksB p.body ++ tg [125] :: rest))) := by simp [toksP]
 have hb := backB p.body h.b.1.1 1 .nil rest (by have := h.b.2; omega) (by simpa [Sts.len] using h.b.1.2)
 have hb2 := Ev.aroundB (d := 0) (by omega) hb
 rw [e1]
 refine Ev.wantW w_proc _ (Ev.name h.n _ (Ev.wantG [40] _ ?_))
 refine Ev.bind (a := p.params) (l := tg [41] :: (tg [123] :: (toksB p.body ++ tg [125] :: rest))) ?_ (Ev.wantG [41] _ (Ev.bind hb2 (Ev.ok _ _ _)))
 have hc := h.c
 generalize p.params = ps at *
 cases ps with
 | nil =>
  rw [show toksPs [] ++ tg [41] :: (tg [123] :: (toksB p.body ++ tg [125] :: rest)) = tg [41] :: (tg [123] :: (toksB p.body ++ tg [125] :: rest)) from rfl, isT_tg, show decide (([41] : List UInt8) = [41]) = true by decide]
  exact Ev.ok _ _ _
 | cons c l =>
  have h1 := hc.2 c (by simp)
  rw [show toksPs (c :: l) ++ tg [41] :: (tg [123] :: (toksB p.body ++ tg [125] :: rest)) = toksC c ++ (l.flatMap (fun c => tg [44] :: toksC c) ++ tg [41] :: (tg [123] :: (toksB p.body ++ tg [125] :: rest))) by simp [toksPs], isT_col h1 _ _ (by decide)]
  simp only [Bool.false_eq_true, if_false]
  refine Ev.col h1 _ ?_
  exact backPs l (fun x hx => hc.2 x (by simp [hx])) [c] _ (by have := hc.1; simp at this ⊢; omega)
theorem isT_table (t : Tb) (rest : List Tok) (w : List UInt8) : isT (toksTb t ++ rest) w = decide (w_table = w) := isT_tw _ _ _
theorem isT_proc (p : Pc) (rest : List Tok) (w : List UInt8) : isT (toksP p ++ rest) w = decide (w_proc = w) := isT_tw _ _ _
structure okW (w : Wk) : Prop where
 t : w.tables.length ≤ 8 ∧ ∀ t ∈ w.tables, okT t
 p : w.procs.length ≤ 8 ∧ ∀ p ∈ w.procs, okP p
theorem backTs : ∀ (l : List Tb), (∀ t ∈ l, okT t) → ∀ a rest, a.length + l.length ≤ 8 → isT rest w_table = false → Ev (fun f => pTables f a (l.flatMap toksTb ++ rest)) (.ok (a ++ l) rest)
 | [], _, a, rest, _, hr => by
  rw [List.append_nil]
  apply Ev.step
  ·intro f; rw [List.flatMap_nil, List.nil_append, pTables, hr]
  ·exact Ev.ok _ _ _
 | t :: l, h, a, rest, hl, hr => by
  rw [List.length_cons] at hl
  have e1 : (t :: l).flatMap toksTb ++ rest = toksTb t ++ (l.flatMap toksTb ++ rest) := by simp
  rw [e1]
  apply Ev.step
  ·intro f; rw [pTables, isT_table, if_pos (by decide), room, if_neg (by omega), bind_ok]
  ·refine Ev.bind (backT (h t (by simp)) _) ?_
   have := backTs l (fun x hx => h x (by simp [hx])) (a ++ [t]) rest (by simp; omega) hr
   simpa using this
theorem backPr : ∀ (l : List Pc), (∀ t ∈ l, okP t) → ∀ a rest, a.length + l.length ≤ 8 → isT rest w_proc = false → Ev (fun f => pProcs f a (l.flatMap toksP ++ rest)) (.ok (a ++ l) rest)
 | [], _, a, rest, _, hr => by
  rw [List.append_nil]
  apply Ev.step
  ·intro f; rw [List.flatMap_nil, List.nil_append, pProcs, hr]
  ·exact Ev.ok _ _ _
 | t :: l, h, a, rest, hl, hr => by
  rw [List.length_cons] at hl
  have e1 : (t :: l).flatMap toksP ++ rest = toksP t ++ (l.flatMap toksP ++ rest) := by simp
  rw [e1]
  apply Ev.step
  ·intro f; rw [pProcs, isT_proc, if_pos (by decide), room, if_neg (by omega), bind_ok]
  ·refine Ev.bind (backP (h t (by simp)) _) ?_
   have := backPr l (fun x hx => h x (by simp [hx])) (a ++ [t]) rest (by simp; omega) hr
   simpa using this
theorem backW {w : Wk} (h : okW w) : Ev (fun f => pWork f (toksW w)) (.ok w []) := by
 have h1 := backTs w.tables h.t.2 [] (w.procs.flatMap toksP) (by simpa using h.t.1) (by
  cases w.procs with
  | nil => rfl
  | cons p l => rw [List.flatMap_cons, isT_proc]; decide)
 have h2 := backPr w.procs h.p.2 [] [] (by simpa using h.p.1) rfl
 rw [List.append_nil] at h2
 refine Ev.bind h1 (Ev.bind h2 ?_)
 simp only [if_true, List.nil_append]
 exact Ev.ok _ _ _
end Go.Proofs.YtnbmpfdffoidaaaGreatDoor.Y
namespace Go.Proofs.YtnbmpfdffoidaaaGreatDoor.Y
open O V S
def TokW (t : Tok) : Prop := (t.1 = 2 → ∃ n, okNum n ∧ t.2.2 = ⟨1, n, []⟩) ∧ (t.1 = 3 → ∃ s, plainL s = true ∧ t.2.2 = ⟨3, 0, s⟩)
def AllW (l : List Tok) : Prop := ∀ t ∈ l, TokW t
theorem AllW.tail {l : List Tok} (h : AllW l) : AllW l.tail := fun t ht => h t (List.mem_of_mem_tail ht)
theorem AllW.rest {t : Tok} {l : List Tok} (h : AllW (t :: l)) : AllW l := fun x hx => h x (by simp [hx])
variable {α β : Type}
def Snd (n : Nat) (Q : α → List Tok → Prop) : Res α → Prop
 | .oof => False
 | .bad => True
 | .ok a r => r.length < n ∧ AllW r ∧ Q a r
theorem Snd.bind {n m : Nat} {Q : α → List Tok → Prop} {R : β → List Tok → Prop} {p : Res α} {f : α → List Tok → Res β} (h : Snd n Q p) (k : ∀ a r, r.length < n → AllW r → Q a r → Snd m R (f a r)) : Snd m R (p.bind f) := by
 cases p with
 | oof => exact h
 | bad => trivial
 | ok a r => exact k a r h.1 h.2.1 h.2.2
theorem Snd.mono {n m : Nat} {Q R : α → List Tok → Prop} {p : Res α} (h : Snd n Q p) (hn : n ≤ m) (k : ∀ a r, Q a r → R a r) : Snd m R p := by
 cases p with
 | oof => exact h
 | bad => trivial
 | ok a r => exact ⟨Nat.lt_of_lt_of_le h.1 hn, h.2.1, k _ _ h.2.2⟩
theorem Snd.ok {n : Nat} {Q : α → List Tok → Prop} {a : α} {r : List Tok} (h1 : r.length < n) (h2 : AllW r) (h3 : Q a r) : Snd n Q (.ok a r) := ⟨h1, h2, h3⟩
theorem isT_pos {l : List Tok} {s : List UInt8} (h : isT l s = true) : 0 < l.length := by
 cases l with
 | nil => cases h
 | cons t r => simp
theorem want_snd {l : List Tok} (h : AllW l) (s : List UInt8) : Snd l.length (fun _ _ => True) (want l s) := by
 unfold want
 split
 ·rename_i hi
  have := isT_pos hi
  exact ⟨by simp; omega, h.tail, trivial⟩
 ·trivial
theorem name_snd {l : List Tok} (h : AllW l) : Snd l.length (fun n _ => isNameL n = true) (pName l) := by
 cases l with
 | nil => trivial
 | cons t r =>
  show Snd _ _ (if t.1 = 1 ∧ isNameL t.2.1 = true then Res.ok t.2.1 r else .bad)
  split
  ·rename_i hn
   exact ⟨by simp, h.rest, hn.2⟩
  ·trivial
theorem num_snd {l : List Tok} (h : AllW l) : Snd l.length (fun n _ => okNum n) (pNum l) := by
 cases l with
 | nil => trivial
 | cons t r =>
  show Snd _ _ (if t.1 = 2 then Res.ok t.2.2.n r else .bad)
  split
  ·rename_i hn
   obtain ⟨n, hn, e⟩ := (h t (by simp)).1 hn
   exact ⟨by simp, h.rest, by rw [e]; exact hn⟩
  ·trivial
theorem room_snd {l : List Tok} (h : AllW l) (n most : Nat) : Snd (l.length + 1) (fun _ r => n < most ∧ r = l) (room n most l) := by
 unfold room
 split
 ·trivial
 ·exact ⟨by omega, h, by omega, rfl⟩
theorem around_snd {l : List Tok} {a b : List UInt8} {d : Nat} {k : Nat → List Tok → Res α} {Q : α → Prop} (h : AllW l) (hd16 : d ≤ 16) (hk : d < 16 → ∀ r, r.length < l.length → AllW r → Snd (r.length + 1) (fun x _ => Q x) (k (d + 1) r)) : Snd l.length (fun x _ => d < 16 ∧ Q x) (around a b d l k) := by
 unfold around
 split
 ·rename_i hi
  have := isT_pos hi
  split
  ·trivial
  ·rename_i hd
   have hd' : d < 16 ∨ 16 < d := by omega
   rcases hd' with hd' | hd'
   ·refine (hk hd' _ (by simp; omega) h.tail).bind fun x r hr hw hq => ?_
    refine (want_snd hw b).bind fun _ r2 hr2 hw2 _ => ?_
    simp at hr
    exact .ok (by omega) hw2 ⟨hd', hq⟩
   ·exact absurd hd (by omega)
 ·trivial
theorem ndb_mono {x : Ex} {a b n : Nat} (h : a ≤ b) : ndb x a n ≤ ndb x b n := by
 unfold ndb
 split <;> split <;> omega
theorem ndb_ge {x : Ex} {a n : Nat} : n ≤ ndb x a n := by
 unfold ndb
 split <;> omega
theorem ndb_no {x : Ex} {a n : Nat} (h : a ≤ lvlX x) : ndb x a n = n := by
 unfold ndb
 rw [if_neg (by omega)]
theorem binS_cases (s : List UInt8) : binS s = (0, 0) ∨ ∃ op, (1 ≤ op ∧ op ≤ 12) ∧ binS s = (op, lvlS op) := by
 by_cases h1 : s = [124, 124]
 ·subst h1; exact .inr ⟨1, by decide, rfl⟩
 by_cases h2 : s = [38, 38]
 ·subst h2; exact .inr ⟨2, by decide, rfl⟩
 by_cases h3 : s = [61, 61]
 ·subst h3; exact .inr ⟨3, by decide, rfl⟩
 by_cases h4 : s = [33, 61]
 ·subst h4; exact .inr ⟨4, by decide, rfl⟩
 by_cases h5 : s = [60]
 ·subst h5; exact .inr ⟨5, by decide, rfl⟩
 by_cases h6 : s = [60, 61]
 ·subst h6; exact .inr ⟨6, by decide, rfl⟩
 by_cases h7 : s = [43]
 ·subst h7; exact .inr ⟨7, by decide, rfl⟩
 by_cases h8 : s = [45]
 ·subst h8; exact .inr ⟨8, by decide, rfl⟩
 by_cases h9 : s = [43, 43]
 ·subst h9; exact .inr ⟨9, by decide, rfl⟩
 by_cases h10 : s = [42]
 ·subst h10; exact .inr ⟨10, by decide, rfl⟩
 by_cases h11 : s = [47]
 ·subst h11; exact .inr ⟨11, by decide, rfl⟩
 by_cases h12 : s = [37]
 ·subst h12; exact .inr ⟨12, by decide, rfl⟩
 exact .inl (by unfold binS; rw [if_neg h1, if_neg h2, if_neg h3, if_neg h4, if_neg h5, if_neg h6, if_neg h7, if_neg h8, if_neg h9, if_neg h10, if_neg h11, if_neg h12])
theorem opT_cases (l : List Tok) : (opT l).2 = 0 ∨ ∃ op, (1 ≤ op ∧ op ≤ 12) ∧ opT l = (op, lvlS op) ∧ 0 < l.length := by
 cases l with
 | nil => exact .inl rfl
 | cons t r =>
  unfold opT
  simp only
  split
  ·rcases binS_cases t.2.1 with h | ⟨op, h1, h2⟩
   ·rw [h]; exact .inl rfl
   ·exact .inr ⟨op, h1, h2, by simp⟩
  ·exact .inl rfl
theorem lit_snd {l : List Tok} (h : AllW l) {v : Val} (hv : pLit l = some v) : okV v ∧ 0 < l.length := by
 cases l with
 | nil => cases hv
 | cons t r =>
  refine ⟨?_, by simp⟩
  have hw := h t (by simp)
  unfold pLit at hv
  simp only at hv
  split at hv
  ·injection hv with e; subst e; exact ⟨by decide, fun h => by simp at h⟩
  ·split at hv
   ·injection hv with e; subst e; exact ⟨by decide, fun h => by simp at h⟩
   ·split at hv
    ·rename_i h23
     injection hv with e
     subst e
     rcases h23 with h2 | h3
     ·obtain ⟨n, hn, e⟩ := hw.1 h2
      rw [e]
      exact ⟨by simp [right], fun _ => hn⟩
     ·obtain ⟨s, hs, e⟩ := hw.2 h3
      rw [e]
      exact ⟨by simp [right, hs], fun h => by simp at h⟩
    ·cases hv
def EQ (lvl d : Nat) (x : Ex) (r : List Tok) : Prop := okX x ∧ d + ndb x (lvl + 1) (nd x) ≤ 16 ∧ (opT r).2 ≤ lvl
def UQ (c d : Nat) (x : Ex) : Prop := okX x ∧ d + ndb x c (nd x) ≤ 16
theorem EQ.u {d : Nat} {x : Ex} {r : List Tok} (h : EQ 0 d x r) : okX x ∧ d + nd x ≤ 16 := ⟨h.1, Nat.le_trans (Nat.add_le_add_left ndb_ge _) h.2.1⟩
theorem expr_snd : ∀ f, (∀ lvl d l, lvl ≤ 5 → d ≤ 16 → AllW l → 4 * l.length + 3 ≤ f → Snd l.length (EQ lvl d) (pExpr f lvl d l)) ∧
  (∀ lvl d x l, lvl ≤ 5 → d ≤ 16 → AllW l → 4 * l.length + 1 ≤ f → okX x → d + ndb x (lvl + 1) (nd x) ≤ 16 → d + ndb x (opT l).2 (nd x) ≤ 16 → Snd (l.length + 1) (EQ lvl d) (pLoop f lvl d x l)) ∧
  (∀ d l, d ≤ 16 → AllW l → 4 * l.length + 2 ≤ f → Snd l.length (fun x _ => UQ 6 d x) (pUnary f d l)) ∧
  (∀ d l, d ≤ 16 → AllW l → 4 * l.length + 1 ≤ f → Snd l.length (fun x _ => UQ 7 d x) (pOperand f d l))
 | 0 => ⟨fun _ _ _ _ _ _ h => by omega, fun _ _ _ _ _ _ _ h => by omega, fun _ _ _ _ h => by omega, fun _ _ _ _ h => by omega⟩
 | f + 1 => by
  obtain ⟨he, hl, hu, ho⟩ := expr_snd f
  have he0 : ∀ d l, d ≤ 16 → AllW l → 4 * l.length + 3 ≤ f → Snd l.length (fun x _ => okX x ∧ d + nd x ≤ 16) (pExpr f 0 d l) := fun d l h1 h2 h3 => (he 0 d l (by omega) h1 h2 h3).mono (Nat.le_refl _) fun _ _ h => h.u
  refine ⟨fun lvl d l h1 h2 hw hf => ?_, fun lvl d x l h1 h2 hw hf hx hd hd2 => ?_, fun d l h2 hw hf => ?_, fun d l h2 hw hf => ?_⟩
  ·rw [pExpr]
   refine (hu d l h2 hw (by omega)).bind fun x r hr hwr hq => ?_
   refine (hl lvl d x r h1 h2 hwr (by omega) hq.1 (Nat.le_trans (Nat.add_le_add_left (ndb_mono (by omega)) _) hq.2) ?_).mono (by omega) fun _ _ h => h
   refine Nat.le_trans (Nat.add_le_add_left (ndb_mono ?_) _) hq.2
   rcases opT_cases r with e | ⟨op, ho, e, _⟩
   ·omega
   ·rw [e]
    have := lvlS_bound ho
    simp only; omega
  ·rw [pLoop]
   split
   ·exact .ok (by omega) hw ⟨hx, hd, by assumption⟩
   ·rename_i hlt
    rcases opT_cases l with e | ⟨op, hop, e, hl0⟩
    ·omega
    ·have hb := lvlS_bound hop
     rw [e] at hlt hd2 ⊢
     simp only at hlt hd2 ⊢
     refine (he (lvlS op) d l.tail hb.2 h2 hw.tail (by simp; omega)).bind fun y r hr hwr hq => ?_
     simp at hr
     have hn : nd (.bin op x y) = max (ndb x (lvlS op) (nd x)) (ndb y (lvlS op + 1) (nd y)) := rfl
     have hq2 := hq.2.1
     have hq3 := hq.2.2
     have hlv : lvlX (.bin op x y) = lvlS op := rfl
     refine (hl lvl d (.bin op x y) r h1 h2 hwr (by omega) ⟨hop, hx, hq.1⟩ ?_ ?_).mono (by omega) fun _ _ h => h
     ·rw [ndb_no (by rw [hlv]; omega), hn]
      omega
     ·rw [ndb_no (by rw [hlv]; omega), hn]
      omega
  ·rw [pUnary]
   have hun : ∀ op, (op = 13 ∨ op = 14) → ∀ s, isT l s = true → Snd l.length (fun x _ => UQ 6 d x) (if d = 16 then .bad else (pUnary f (d + 1) l.tail).bind fun x r => .ok (.un op x) r) := by
    intro op hop s hi
    have := isT_pos hi
    split
    ·trivial
    ·refine (hu (d + 1) l.tail (by omega) hw.tail (by simp; omega)).bind fun x r hr hwr hq => ?_
     simp at hr
     refine .ok (by omega) hwr ⟨⟨hop, hq.1⟩, ?_⟩
     have hn : nd (.un op x) = ndb x 6 (nd x) + 1 := rfl
     have hq2 := hq.2
     rw [ndb_no (show 6 ≤ lvlX (.un op x) from Nat.le_refl _), hn]
     omega
   split
   ·exact hun 13 (.inl rfl) _ (by assumption)
   ·split
    ·exact hun 14 (.inr rfl) _ (by assumption)
    ·exact (ho d l h2 hw (by omega)).mono (Nat.le_refl _) fun _ _ h => ⟨h.1, Nat.le_trans (Nat.add_le_add_left (ndb_mono (by omega)) _) h.2⟩
  ·rw [pOperand]
   cases hv : pLit l with
   | some v =>
    have := lit_snd hw hv
    simp only
    exact .ok (by simp; omega) hw.tail ⟨this.1, by rw [ndb_no (show 7 ≤ lvlX (.val v) from Nat.le_refl _)]; exact h2⟩
   | none =>
    simp only
    have hleaf : ∀ {x : Ex}, lvlX x = 7 → okX x → d + nd x ≤ 16 → UQ 7 d x := fun h1 h2 h3 => ⟨h2, by rw [ndb_no (by rw [h1]; exact Nat.le_refl _)]; exact h3⟩
    split
    ·refine (around_snd hw (by omega) (Q := fun x => okX x ∧ d + 1 + nd x ≤ 16) fun hd r hr hwr => (he0 (d + 1) r (by omega) hwr (by omega)).mono (by omega) fun _ _ h => h).mono (Nat.le_refl _) fun x r h => ?_
     refine ⟨h.2.1, ?_⟩
     have := h.2.2
     unfold ndb
     split <;> omega
    ·split
     ·rename_i hi
      have := isT_pos hi
      refine (around_snd hw.tail (by omega) (Q := fun x => UQ 7 d x) fun hd r hr hwr => ?_).mono (by simp) fun x r h => h.2
      simp at hr
      refine (name_snd hwr).bind fun n r1 hr1 hw1 hn => ?_
      refine (want_snd hw1 _).bind fun _ r2 hr2 hw2 _ => ?_
      refine (he0 (d + 1) r2 (by omega) hw2 (by omega)).bind fun a r3 hr3 hw3 ha => ?_
      have := ha.2
      exact .ok (by omega) hw3 (hleaf rfl ⟨hn, ha.1⟩ (show d + (nd a + 1) ≤ 16 by omega))
     ·split
      ·rename_i hi
       have := isT_pos hi
       refine (around_snd hw.tail (by omega) (Q := fun x => UQ 7 d x) fun hd r hr hwr => ?_).mono (by simp) fun x r h => h.2
       simp at hr
       refine (name_snd hwr).bind fun n r1 hr1 hw1 hn => ?_
       refine (want_snd hw1 _).bind fun _ r2 hr2 hw2 _ => ?_
       refine (name_snd hw2).bind fun c r3 hr3 hw3 hc => ?_
       refine (want_snd hw3 _).bind fun _ r4 hr4 hw4 _ => ?_
       refine (he0 (d + 1) r4 (by omega) hw4 (by omega)).bind fun a r5 hr5 hw5 ha => ?_
       refine (want_snd hw5 _).bind fun _ r6 hr6 hw6 _ => ?_
       refine (he0 (d + 1) r6 (by omega) hw6 (by omega)).bind fun b r7 hr7 hw7 hb => ?_
       have := ha.2
       have := hb.2
       exact .ok (by omega) hw7 (hleaf rfl ⟨hn, hc, ha.1, hb.1⟩ (show d + (max (nd a) (nd b) + 1) ≤ 16 by omega))
      ·split
       ·rename_i hi
        have := isT_pos hi
        refine (around_snd hw.tail (by omega) (Q := fun x => UQ 7 d x) fun hd r hr hwr => ?_).mono (by simp) fun x r h => h.2
        simp at hr
        refine (name_snd hwr).bind fun n r1 hr1 hw1 hn => ?_
        refine (want_snd hw1 _).bind fun _ r4 hr4 hw4 _ => ?_
        refine (he0 (d + 1) r4 (by omega) hw4 (by omega)).bind fun a r5 hr5 hw5 ha => ?_
        refine (want_snd hw5 _).bind fun _ r6 hr6 hw6 _ => ?_
        refine (he0 (d + 1) r6 (by omega) hw6 (by omega)).bind fun b r7 hr7 hw7 hb => ?_
        have := ha.2
        have := hb.2
        exact .ok (by omega) hw7 (hleaf rfl ⟨hn, ha.1, hb.1⟩ (show d + (max (nd a) (nd b) + 1) ≤ 16 by omega))
       ·refine (name_snd hw).bind fun n r hr hwr hn => ?_
        split
        ·refine (around_snd hwr (by omega) (Q := fun x => okX x ∧ d + 1 + nd x ≤ 16) fun hd r1 hr1 hw1 => (he0 (d + 1) r1 (by omega) hw1 (by omega)).mono (by omega) fun _ _ h => h).bind fun k r2 hr2 hw2 hk => ?_
         refine (want_snd hw2 _).bind fun _ r3 hr3 hw3 _ => ?_
         refine (name_snd hw3).bind fun c r4 hr4 hw4 hc => ?_
         have := hk.2.2
         exact .ok (by omega) hw4 (hleaf rfl ⟨hn, hc, hk.2.1⟩ (show d + (nd k + 1) ≤ 16 by omega))
        ·exact .ok (by omega) hwr (hleaf rfl hn (show d + 0 ≤ 16 by omega))
theorem whole_snd {f d : Nat} {l : List Tok} (hd : d ≤ 16) (hw : AllW l) (hf : 4 * l.length + 3 ≤ f) : Snd l.length (fun x _ => okX x ∧ d + nd x ≤ 16) (pExpr f 0 d l) := ((expr_snd f).1 0 d l (by omega) hd hw hf).mono (Nat.le_refl _) fun _ _ h => h.u
theorem line_snd {f d : Nat} {l : List Tok} (hd : d ≤ 16) (hw : AllW l) (hf : 4 * l.length + 3 ≤ f) : Snd l.length (fun x _ => okX x ∧ d + nd x ≤ 16) (pLine f d l) := by
 refine (whole_snd hd hw hf).bind fun x r hr hwr hx => ?_
 refine (want_snd hwr _).bind fun _ r2 hr2 hw2 _ => ?_
 exact .ok (by omega) hw2 hx
theorem key_snd {f d : Nat} {l : List Tok} (hd : d ≤ 16) (hw : AllW l) (hf : 4 * l.length + 3 ≤ f) : Snd l.length (fun x _ => okX x ∧ d + (nd x + 1) ≤ 16) (pKey f d l) :=
 (around_snd hw (by omega) (Q := fun x => okX x ∧ d + 1 + nd x ≤ 16) fun hd r hr hwr => (whole_snd (by omega) hwr (by omega)).mono (by omega) fun _ _ h => h).mono (Nat.le_refl _) fun _ _ h => ⟨h.2.1, by have := h.2.2; omega⟩
theorem okB_snoc : ∀ (a : Sts) (s : St), okB a → okS s → okB (a.snoc s)
 | .nil, s, _, h => by rw [Sts.snoc, okB]; exact ⟨h, by rw [okB]; trivial⟩
 | .cons t r, s, h, k => by
  rw [okB] at h
  rw [Sts.snoc, okB]
  exact ⟨h.1, okB_snoc r s h.2 k⟩
theorem ndB_snoc : ∀ (a : Sts) (s : St), ndB (a.snoc s) = max (ndB a) (ndS s)
 | .nil, s => by simp only [Sts.snoc, ndB]; omega
 | .cons t r, s => by rw [Sts.snoc, ndB, ndB, ndB_snoc r s]; omega
def BQ (d : Nat) (b : Sts) : Prop := (okB b ∧ b.len ≤ 24) ∧ d + ndB b ≤ 16
def SQ (d : Nat) (s : St) : Prop := okS s ∧ d + ndS s ≤ 16
theorem stmt_snd : ∀ f, (∀ d l, d ≤ 16 → AllW l → 4 * l.length + 5 ≤ f → Snd l.length (fun s _ => SQ d s) (pStmt f d l)) ∧
  (∀ d l, d ≤ 16 → AllW l → 4 * l.length + 3 ≤ f → Snd l.length (fun b _ => BQ (d + 1) b) (pBlock f d l)) ∧
  (∀ d a l, d ≤ 16 → AllW l → 4 * l.length + 6 ≤ f → BQ d a → Snd (l.length + 1) (fun b _ => BQ d b) (pStmts f d a l))
 | 0 => ⟨fun _ _ _ _ h => by omega, fun _ _ _ _ h => by omega, fun _ _ _ _ _ h => by omega⟩
 | f + 1 => by
  obtain ⟨hs, hb, ht⟩ := stmt_snd f
  refine ⟨fun d l hd hw hf => ?_, fun d l hd hw hf => ?_, fun d a l hd hw hf ha => ?_⟩
  ·rw [pStmt]
   split
   ·rename_i hi
    have := isT_pos hi
    refine (name_snd hw.tail).bind fun n r1 hr1 hw1 hn => ?_
    simp at hr1
    refine (want_snd hw1 _).bind fun _ r2 hr2 hw2 _ => ?_
    refine (line_snd hd hw2 (by omega)).bind fun x r3 hr3 hw3 hx => ?_
    exact .ok (by omega) hw3 ⟨by rw [okS]; exact ⟨hn, hx.1⟩, by rw [ndS]; exact hx.2⟩
   ·split
    ·rename_i hi
     have := isT_pos hi
     refine (name_snd hw.tail).bind fun n r1 hr1 hw1 hn => ?_
     simp at hr1
     refine (key_snd hd hw1 (by omega)).bind fun x r2 hr2 hw2 hx => ?_
     refine (want_snd hw2 _).bind fun _ r3 hr3 hw3 _ => ?_
     exact .ok (by omega) hw3 ⟨by rw [okS]; exact ⟨hn, hx.1⟩, by rw [ndS]; exact hx.2⟩
    ·split
     ·rename_i hi
      have := isT_pos hi
      refine (whole_snd hd hw.tail (by simp; omega)).bind fun x r1 hr1 hw1 hx => ?_
      simp at hr1
      refine (hb d r1 hd hw1 (by omega)).bind fun b r2 hr2 hw2 hb1 => ?_
      have h1 := hb1.2
      have h2 := hx.2
      split
      ·rename_i hi2
       have := isT_pos hi2
       refine (hb d r2.tail hd hw2.tail (by simp; omega)).bind fun e r3 hr3 hw3 he1 => ?_
       simp at hr3
       have h3 := he1.2
       exact .ok (by omega) hw3 ⟨by rw [okS]; exact ⟨hx.1, hb1.1, he1.1⟩, by rw [ndS]; omega⟩
      ·exact .ok (by omega) hw2 ⟨by rw [okS]; exact ⟨hx.1, hb1.1, by rw [okB]; trivial, by rw [Sts.len]; omega⟩, by rw [ndS, ndB]; omega⟩
     ·split
      ·rename_i hi
       have := isT_pos hi
       refine (num_snd hw.tail).bind fun k r1 hr1 hw1 hk => ?_
       simp at hr1
       refine (name_snd hw1).bind fun n r2 hr2 hw2 hn => ?_
       refine (hb d r2 hd hw2 (by omega)).bind fun b r3 hr3 hw3 hb1 => ?_
       have h1 := hb1.2
       exact .ok (by omega) hw3 ⟨by rw [okS]; exact ⟨hk, hn, hb1.1⟩, by rw [ndS]; omega⟩
      ·split
       ·rename_i hi
        have := isT_pos hi
        refine (name_snd hw.tail).bind fun n r1 hr1 hw1 hn => ?_
        simp at hr1
        refine (want_snd hw1 _).bind fun _ r2 hr2 hw2 _ => ?_
        refine (name_snd hw2).bind fun t r3 hr3 hw3 htn => ?_
        refine (want_snd hw3 _).bind fun _ r4 hr4 hw4 _ => ?_
        refine (whole_snd hd hw4 (by omega)).bind fun lo r5 hr5 hw5 hlo => ?_
        refine (want_snd hw5 _).bind fun _ r6 hr6 hw6 _ => ?_
        refine (whole_snd hd hw6 (by omega)).bind fun hi r7 hr7 hw7 hhi => ?_
        refine (want_snd hw7 _).bind fun _ r8 hr8 hw8 _ => ?_
        refine (num_snd hw8).bind fun k r9 hr9 hw9 hk => ?_
        refine (hb d r9 hd hw9 (by omega)).bind fun b r10 hr10 hw10 hb1 => ?_
        have h1 := hb1.2
        have h2 := hlo.2
        have h3 := hhi.2
        exact .ok (by omega) hw10 ⟨by rw [okS]; exact ⟨⟨hn, htn⟩, ⟨hlo.1, hhi.1⟩, hk, hb1.1⟩, by rw [ndS]; omega⟩
       ·split
        ·rename_i hi
         have := isT_pos hi
         refine (want_snd hw.tail _).bind fun _ r1 hr1 hw1 _ => ?_
         simp at hr1
         exact .ok (by omega) hw1 ⟨by rw [okS]; trivial, by rw [ndS]; omega⟩
        ·split
         ·rename_i hi
          have := isT_pos hi
          refine (line_snd hd hw.tail (by simp; omega)).bind fun x r1 hr1 hw1 hx => ?_
          simp at hr1
          exact .ok (by omega) hw1 ⟨by rw [okS]; exact hx.1, by rw [ndS]; exact hx.2⟩
         ·refine (name_snd hw).bind fun n r1 hr1 hw1 hn => ?_
          split
          ·refine (key_snd hd hw1 (by omega)).bind fun k r2 hr2 hw2 hk => ?_
           refine (want_snd hw2 _).bind fun _ r3 hr3 hw3 _ => ?_
           refine (name_snd hw3).bind fun c r4 hr4 hw4 hc => ?_
           refine (want_snd hw4 _).bind fun _ r5 hr5 hw5 _ => ?_
           refine (line_snd hd hw5 (by omega)).bind fun x r6 hr6 hw6 hx => ?_
           have h1 := hk.2
           have h2 := hx.2
           exact .ok (by omega) hw6 ⟨by rw [okS]; exact ⟨hn, hc, hk.1, hx.1⟩, by rw [ndS]; omega⟩
          ·refine (want_snd hw1 _).bind fun _ r2 hr2 hw2 _ => ?_
           refine (line_snd hd hw2 (by omega)).bind fun x r3 hr3 hw3 hx => ?_
           exact .ok (by omega) hw3 ⟨by rw [okS]; exact ⟨hn, hx.1⟩, by rw [ndS]; exact hx.2⟩
  ·rw [pBlock]
   refine (around_snd hw (by omega) (Q := fun b => BQ (d + 1) b) fun hd r hr hwr => (ht (d + 1) .nil r (by omega) hwr (by omega) ?_).mono (Nat.le_refl _) fun _ _ h => h).mono (Nat.le_refl _) fun _ _ h => h.2
   exact ⟨⟨by rw [okB]; trivial, by rw [Sts.len]; omega⟩, by rw [ndB]; omega⟩
  ·rw [pStmts]
   split
   ·exact .ok (by omega) hw ha
   ·refine (room_snd hw _ _).bind fun _ r hr hwr hq => ?_
    obtain ⟨hq, rfl⟩ := hq
    refine (hs d r hd hwr (by omega)).bind fun s r2 hr2 hw2 hs1 => ?_
    refine (ht d (a.snoc s) r2 hd hw2 (by omega) ⟨⟨okB_snoc _ _ ha.1.1 hs1.1, by rw [Sts.snoc_len]; omega⟩, ?_⟩).mono (by omega) fun _ _ h => h
    have h1 := hs1.2
    have h2 := ha.2
    rw [ndB_snoc]; omega
theorem typ_snd {l : List Tok} (h : AllW l) : Snd l.length (fun (t : Int × Int) _ => (t.1 = 1 ∧ t.2 = 0) ∨ (t.1 = 2 ∧ t.2 = 0) ∨ (t.1 = 3 ∧ 1 ≤ t.2 ∧ t.2 ≤ 32)) (pTyp l) := by
 unfold pTyp
 split
 ·rename_i hi
  have := isT_pos hi
  exact .ok (by simp; omega) h.tail (.inl ⟨rfl, rfl⟩)
 ·split
  ·rename_i hi
   have := isT_pos hi
   exact .ok (by simp; omega) h.tail (.inr (.inl ⟨rfl, rfl⟩))
  ·refine (want_snd h _).bind fun _ r1 hr1 hw1 _ => ?_
   refine (num_snd hw1).bind fun k r2 hr2 hw2 hk => ?_
   split
   ·exact .ok (by omega) hw2 (.inr (.inr ⟨rfl, by assumption⟩))
   ·trivial
theorem col_snd {l : List Tok} (h : AllW l) : Snd l.length (fun c _ => okC c) (pCol l) := by
 refine (name_snd h).bind fun n r1 hr1 hw1 hn => ?_
 refine (typ_snd hw1).bind fun t r2 hr2 hw2 ht => ?_
 exact .ok (by omega) hw2 ⟨hn, ht⟩
theorem roomN_snd {l : List Tok} (h : AllW l) (n most : Nat) : Snd (l.length + 1) (fun _ r => r = l ∧ (isN l = true → n < most)) (if isN l then room n most l else .ok () l) := by
 split
 ·refine (room_snd h n most).mono (Nat.le_refl _) fun _ _ h => ⟨h.2, fun _ => h.1⟩
 ·rename_i hn
  exact .ok (by omega) h ⟨rfl, fun h => absurd h hn⟩
theorem col_isN {l : List Tok} {c : Cl} {r : List Tok} (h : pCol l = .ok c r) : isN l = true := by
 cases l with
 | nil => cases h
 | cons t r1 =>
  unfold pCol pName at h
  simp only at h
  split at h
  ·rename_i hh
   show (decide (t.1 = 1) && isNameL t.2.1) = true
   rw [hh.2, decide_eq_true hh.1]; rfl
  ·cases h
theorem colN_snd {l : List Tok} (h : AllW l) : Snd l.length (fun c _ => okC c ∧ isN l = true) (pCol l) := by
 have := col_snd h
 cases hp : pCol l with
 | oof => rw [hp] at this; exact this
 | bad => trivial
 | ok a r => rw [hp] at this; exact ⟨this.1, this.2.1, this.2.2, col_isN hp⟩
theorem cols_snd : ∀ f a l, AllW l → l.length + 1 ≤ f → (∀ c ∈ a, okC c) → a.length ≤ 8 → Snd l.length (fun b _ => b.length ≤ 8 ∧ ∀ c ∈ b, okC c) (pCols f a l)
 | 0, _, _, _, h, _, _ => by omega
 | f + 1, a, l, hw, hf, ha, hn => by
  rw [pCols]
  split
  ·rename_i hi
   have := isT_pos hi
   exact .ok (by simp; omega) hw.tail ⟨hn, ha⟩
  ·refine (roomN_snd hw _ _).bind fun _ r hr hwr hq => ?_
   obtain ⟨rfl, hq⟩ := hq
   refine (colN_snd hwr).bind fun c r2 hr2 hw2 hc => ?_
   refine (want_snd hw2 _).bind fun _ r3 hr3 hw3 _ => ?_
   refine (cols_snd f (a ++ [c]) r3 hw3 (by omega) (fun x hx => ?_) ?_).mono (by omega) fun _ _ h => h
   ·rcases List.mem_append.1 hx with e | e
    ·exact ha x e
    ·rw [List.mem_singleton.1 e]; exact hc.1
   ·have := hq hc.2
    simp; omega
theorem params_snd : ∀ f a l, AllW l → l.length + 1 ≤ f → (∀ c ∈ a, okC c) → a.length ≤ 6 → Snd (l.length + 1) (fun b _ => b.length ≤ 6 ∧ ∀ c ∈ b, okC c) (pParams f a l)
 | 0, _, _, _, h, _, _ => by omega
 | f + 1, a, l, hw, hf, ha, hn => by
  rw [pParams]
  split
  ·rename_i hi
   have := isT_pos hi
   refine (roomN_snd hw.tail _ _).bind fun _ r hr hwr hq => ?_
   obtain ⟨rfl, hq⟩ := hq
   simp at hr
   refine (colN_snd hwr).bind fun c r2 hr2 hw2 hc => ?_
   simp at hr2
   refine (params_snd f (a ++ [c]) r2 hw2 (by omega) (fun x hx => ?_) ?_).mono (by omega) fun _ _ h => h
   ·rcases List.mem_append.1 hx with e | e
    ·exact ha x e
    ·rw [List.mem_singleton.1 e]; exact hc.1
   ·have := hq hc.2
    simp; omega
  ·exact .ok (by omega) hw ⟨hn, ha⟩
theorem table_snd {f : Nat} {l : List Tok} (hw : AllW l) (hf : l.length + 1 ≤ f) : Snd l.length (fun t _ => okT t) (pTable f l) := by
 refine (want_snd hw _).bind fun _ r1 hr1 hw1 _ => ?_
 refine (name_snd hw1).bind fun n r2 hr2 hw2 hn => ?_
 refine (want_snd hw2 _).bind fun _ r3 hr3 hw3 _ => ?_
 refine (num_snd hw3).bind fun k r4 hr4 hw4 hk => ?_
 refine (want_snd hw4 _).bind fun _ r5 hr5 hw5 _ => ?_
 refine (cols_snd f [] r5 hw5 (by omega) (fun _ h => by cases h) (by simp)).bind fun c r6 hr6 hw6 hc => ?_
 exact .ok (by omega) hw6 ⟨hn, hk, hc⟩
theorem proc_snd {f : Nat} {l : List Tok} (hw : AllW l) (hf : 4 * l.length + 3 ≤ f) : Snd l.length (fun t _ => okP t) (pProc f l) := by
 refine (want_snd hw _).bind fun _ r1 hr1 hw1 _ => ?_
 refine (name_snd hw1).bind fun n r2 hr2 hw2 hn => ?_
 refine (want_snd hw2 _).bind fun _ r3 hr3 hw3 _ => ?_
 have hps : Snd (r3.length + 1) (fun b _ => b.length ≤ 6 ∧ ∀ c ∈ b, okC c) (if isT r3 [41] then Res.ok [] r3 else (pCol r3).bind fun c r => pParams f [c] r) := by
  split
  ·exact .ok (by omega) hw3 ⟨by simp, fun _ h => by cases h⟩
  ·refine (col_snd hw3).bind fun c r4 hr4 hw4 hc => ?_
   exact (params_snd f [c] r4 hw4 (by omega) (fun x hx => by rw [List.mem_singleton.1 hx]; exact hc) (by simp)).mono (by omega) fun _ _ h => h
 refine hps.bind fun ps r4 hr4 hw4 hps => ?_
 refine (want_snd hw4 _).bind fun _ r5 hr5 hw5 _ => ?_
 refine ((stmt_snd f).2.1 0 r5 (by omega) hw5 (by omega)).bind fun b r6 hr6 hw6 hb => ?_
 have := hb.2
 exact .ok (by omega) hw6 ⟨hn, hps, hb.1, by show ndB b + 1 ≤ 16; omega⟩
theorem tables_snd : ∀ f a l, AllW l → l.length + 2 ≤ f → (∀ t ∈ a, okT t) → a.length ≤ 8 → Snd (l.length + 1) (fun b _ => b.length ≤ 8 ∧ ∀ t ∈ b, okT t) (pTables f a l)
 | 0, _, _, _, h, _, _ => by omega
 | f + 1, a, l, hw, hf, ha, hn => by
  rw [pTables]
  split
  ·refine (room_snd hw _ _).bind fun _ r hr hwr hq => ?_
   obtain ⟨hq, rfl⟩ := hq
   refine (table_snd hwr (by omega)).bind fun c r2 hr2 hw2 hc => ?_
   refine (tables_snd f (a ++ [c]) r2 hw2 (by omega) (fun x hx => ?_) (by simp; omega)).mono (by omega) fun _ _ h => h
   rcases List.mem_append.1 hx with e | e
   ·exact ha x e
   ·rw [List.mem_singleton.1 e]; exact hc
  ·exact .ok (by omega) hw ⟨hn, ha⟩
theorem procs_snd : ∀ f a l, AllW l → 4 * l.length + 4 ≤ f → (∀ t ∈ a, okP t) → a.length ≤ 8 → Snd (l.length + 1) (fun b _ => b.length ≤ 8 ∧ ∀ t ∈ b, okP t) (pProcs f a l)
 | 0, _, _, _, h, _, _ => by omega
 | f + 1, a, l, hw, hf, ha, hn => by
  rw [pProcs]
  split
  ·refine (room_snd hw _ _).bind fun _ r hr hwr hq => ?_
   obtain ⟨hq, rfl⟩ := hq
   refine (proc_snd hwr (by omega)).bind fun c r2 hr2 hw2 hc => ?_
   refine (procs_snd f (a ++ [c]) r2 hw2 (by omega) (fun x hx => ?_) (by simp; omega)).mono (by omega) fun _ _ h => h
   rcases List.mem_append.1 hx with e | e
   ·exact ha x e
   ·rw [List.mem_singleton.1 e]; exact hc
  ·exact .ok (by omega) hw ⟨hn, ha⟩
theorem work_snd {f : Nat} {l : List Tok} (hw : AllW l) (hf : 4 * l.length + 8 ≤ f) : Snd (l.length + 1) (fun w r => okW w ∧ r = []) (pWork f l) := by
 refine (tables_snd f [] l hw (by omega) (fun _ h => by cases h) (by simp)).bind fun t r hr hwr ht => ?_
 refine (procs_snd f [] r hwr (by omega) (fun _ h => by cases h) (by simp)).bind fun p r2 hr2 hw2 hp => ?_
 split
 ·rename_i he
  exact .ok (by omega) hw2 ⟨⟨ht, hp⟩, he⟩
 ·trivial
end Go.Proofs.YtnbmpfdffoidaaaGreatDoor.Y
namespace Go.Proofs.YtnbmpfdffoidaaaGreatDoor.X
open O V S
def blankC (c : UInt8) : Bool := decide (c.toNat = 32) || (decide (c.toNat = 9) || (decide (c.toNat = 10) || decide (c.toNat = 13)))
def digitC (c : UInt8) : Bool := decide (48 ≤ c.toNat) && decide (c.toNat ≤ 57)
def wordC (c : UInt8) : Bool := smallC c || (digitC c || decide (c.toNat = 95))
def noteC (c : UInt8) : Bool := decide (c.toNat ≠ 10)
def runLen (p : UInt8 → Bool) : List UInt8 → Nat
 | [] => 0
 | c :: r => if p c then runLen p r + 1 else 0
theorem runLen_le (p : UInt8 → Bool) : ∀ l, runLen p l ≤ l.length
 | [] => by simp [runLen]
 | c :: r => by unfold runLen; split <;> simp [runLen_le p r]
theorem drop_run (p : UInt8 → Bool) : ∀ l : List UInt8, l.drop (runLen p l) = l.dropWhile p
 | [] => rfl
 | c :: r => by
  unfold runLen List.dropWhile
  cases h : p c
  ·simp
  ·simp [drop_run p r]
theorem while_len (p : UInt8 → Bool) (l : List UInt8) : (l.dropWhile p).length ≤ l.length := by
 rw [← drop_run]; simp
def skip : List UInt8 → List UInt8
 | [] => []
 | c :: r => if blankC c then skip r else if c.toNat = 35 then skip (r.dropWhile noteC) else c :: r
termination_by l => l.length
decreasing_by
 ·simp
 ·have := while_len noteC r; simp; omega
theorem skip_nil : skip [] = [] := by rw [skip]
theorem skip_blank {c : UInt8} (r : List UInt8) (h : blankC c = true) : skip (c :: r) = skip r := by rw [skip, if_pos h]
theorem skip_note {c : UInt8} (r : List UInt8) (h : c.toNat = 35) : skip (c :: r) = skip (r.dropWhile noteC) := by
 rw [skip, if_neg (by simp [blankC, h]), if_pos h]
theorem skip_stop {c : UInt8} (r : List UInt8) (h : blankC c = false) (h2 : c.toNat ≠ 35) : skip (c :: r) = c :: r := by
 rw [skip, if_neg (by simp [h]), if_neg h2]
theorem skip_len : ∀ (n : Nat) (l : List UInt8), l.length ≤ n → (skip l).length ≤ l.length
 | _, [], _ => by simp [skip_nil]
 | 0, c :: r, h => by simp at h
 | n + 1, c :: r, h => by
  simp at h
  by_cases h1 : blankC c = true
  ·rw [skip_blank r h1]
   have := skip_len n r h
   simp; omega
  ·by_cases h2 : c.toNat = 35
   ·rw [skip_note r h2]
    have h3 := while_len noteC r
    have := skip_len n (r.dropWhile noteC) (by omega)
    simp; omega
   ·rw [skip_stop r (by simpa using h1) h2]
    simp
theorem skip_while : ∀ l : List UInt8, skip (l.dropWhile blankC) = skip l
 | [] => rfl
 | c :: r => by
  by_cases h : blankC c = true
  ·rw [skip_blank r h, List.dropWhile_cons, if_pos h, skip_while r]
  ·rw [List.dropWhile_cons, if_neg h]
def Stops (l : List UInt8) : Prop := l = [] ∨ ∃ c r, l = c :: r ∧ blankC c = false ∧ c.toNat ≠ 35
theorem skip_suffix : ∀ (n : Nat) (l : List UInt8), l.length ≤ n → ∃ k, k ≤ l.length ∧ skip l = l.drop k
 | _, [], _ => ⟨0, by simp, by simp [skip_nil]⟩
 | 0, c :: r, h => by simp at h
 | n + 1, c :: r, h => by
  simp at h
  by_cases h1 : blankC c = true
  ·obtain ⟨k, hk, e⟩ := skip_suffix n r h
   exact ⟨k + 1, by simp; omega, by rw [skip_blank r h1, e]; simp⟩
  ·by_cases h2 : c.toNat = 35
   ·obtain ⟨k, hk, e⟩ := skip_suffix n (r.dropWhile noteC) (by have := while_len noteC r; omega)
    have h3 := while_len noteC r
    have hle := runLen_le noteC r
    refine ⟨k + runLen noteC r + 1, ?_, ?_⟩
    ·rw [← drop_run] at hk; simp at hk; simp; omega
    ·rw [skip_note r h2, e, ← drop_run, List.drop_drop, List.drop_succ_cons]
     congr 1; omega
   ·exact ⟨0, by simp, by rw [skip_stop r (by simpa using h1) h2]; simp⟩
structure Quo where
 n : Nat
 s : List UInt8
 bad : Option Nat
def wrongC (c : UInt8) : Bool := decide (c.toNat < 32) || decide (c.toNat > 126)
def escC (c : UInt8) : Bool := decide (c.toNat = 34) || decide (c.toNat = 92)
def orE (a b : Option Nat) : Option Nat := match a with | some k => some k | none => b
def quoS : List UInt8 → Nat → Quo → Option Quo
 | [], _, _ => none
 | [c], k, q => if c.toNat = 34 then some ⟨k, q.s, q.bad⟩ else none
 | c :: d :: r, k, q =>
  if c.toNat = 34 then some ⟨k, q.s, q.bad⟩
  else if c.toNat = 92 then quoS r (k + 2) ⟨0, q.s ++ [d], orE q.bad (if (!escC d || wrongC d) = true then some (k + 1) else none)⟩
  else quoS (d :: r) (k + 1) ⟨0, q.s ++ [c], orE q.bad (if wrongC c = true then some k else none)⟩
structure TokR where
 e : Int
 off : Nat
 k : Int
 n : Nat
 v : Val
def zeroV : Val := ⟨0, 0, []⟩
def two (a b : Nat) : Bool := (decide (a = 38) && decide (b = 38)) || ((decide (a = 124) && decide (b = 124)) || ((decide (a = 61) && decide (b = 61)) || ((decide (a = 33) && decide (b = 61)) || ((decide (a = 60) && decide (b = 61)) || (decide (a = 43) && decide (b = 43))))))
def signs : List Nat := [123, 125, 40, 41, 91, 93, 59, 44, 46, 61, 60, 43, 45, 42, 47, 37, 33]
def one (c : Nat) : Bool := signs.any (· = c)
def signL : List UInt8 → Nat
 | [] => 0
 | [c] => if one c.toNat then 1 else 0
 | c :: d :: _ => if two c.toNat d.toNat then 2 else if one c.toNat then 1 else 0
def numV (l : List UInt8) : Nat := l.foldl (fun n c => 10 * n + (c.toNat - 48)) 0
def numOk (l : List UInt8) : Bool := decide (numV l < 9223372036854775808) && (decide ((l.getD 0 0).toNat ≠ 48) || decide (l.length = 1))
def quoL (t : List UInt8) : TokR := match quoS (t.drop 1) 1 ⟨0, [], none⟩ with
 | none => ⟨12, t.length, 3, 0, zeroV⟩
 | some q => match q.bad with
  | some k => ⟨10, k, 3, 0, zeroV⟩
  | none => if q.s.length > 32 then ⟨2, 0, 3, 0, zeroV⟩ else ⟨0, 0, 3, q.n + 1, ⟨3, 0, q.s⟩⟩
def tokL : List UInt8 → TokR
 | [] => ⟨10, 0, 4, 0, zeroV⟩
 | c :: r =>
  if smallC c then (if runLen wordC (c :: r) > 16 then ⟨2, 0, 1, 0, zeroV⟩ else ⟨0, 0, 1, runLen wordC (c :: r), zeroV⟩)
  else if digitC c then (if numOk ((c :: r).take (runLen digitC (c :: r))) then ⟨0, 0, 2, runLen digitC (c :: r), ⟨1, (numV ((c :: r).take (runLen digitC (c :: r))) : Nat), []⟩⟩ else ⟨11, 0, 2, 0, zeroV⟩)
  else if c.toNat = 34 then quoL (c :: r)
  else if signL (c :: r) = 0 then ⟨10, 0, 4, 0, zeroV⟩ else ⟨0, 0, 4, signL (c :: r), zeroV⟩
structure Tk where
 k : Int
 text : List UInt8
 v : Val
 i : Nat
def lineOf (s : List UInt8) : Nat → Nat
 | 0 => 1
 | i + 1 => if (s.getD i 0).toNat = 10 then lineOf s i + 1 else lineOf s i
def startOf (s : List UInt8) : Nat → Nat
 | 0 => 0
 | i + 1 => if (s.getD i 0).toNat = 10 then i + 1 else startOf s i
theorem startOf_le (s : List UInt8) : ∀ i, startOf s i ≤ i
 | 0 => Nat.le_refl _
 | i + 1 => by
  have := startOf_le s i
  unfold startOf
  split <;> omega
theorem lineOf_le (s : List UInt8) : ∀ i, lineOf s i ≤ i + 1
 | 0 => Nat.le_refl _
 | i + 1 => by
  have := lineOf_le s i
  unfold lineOf
  split <;> omega
theorem start_no (s : List UInt8) (i : Nat) : ∀ n, (∀ j, i ≤ j → j < i + n → (s.getD j 0).toNat ≠ 10) → startOf s (i + n) = startOf s i
 | 0, _ => rfl
 | n + 1, h => by
  rw [← Nat.add_assoc, startOf, if_neg (h (i + n) (by omega) (by omega))]
  exact start_no s i n (fun j h1 h2 => h j h1 (by omega))
theorem start_at (s : List UInt8) (i p n : Nat) (hp : p < n) (h : (s.getD (i + p) 0).toNat = 10) (hn : ∀ j, p < j → j < n → (s.getD (i + j) 0).toNat ≠ 10) : startOf s (i + n) = i + p + 1 := by
 have := start_no s (i + p + 1) (n - p - 1) (fun j h1 h2 => by have := hn (j - i) (by omega) (by omega); rwa [show i + (j - i) = j by omega] at this)
 rw [show i + p + 1 + (n - p - 1) = i + n by omega] at this
 rw [this, startOf, if_pos h]
theorem ten_iff (c : UInt8) : c.toNat = 10 ↔ c = 10 := by
 constructor
 ·intro h; exact UInt8.toNat_inj.1 h
 ·intro h; subst h; rfl
theorem line_add (s : List UInt8) (i : Nat) : ∀ n, i + n ≤ s.length → lineOf s (i + n) = lineOf s i + ((s.drop i).take n).count 10
 | 0, _ => by simp
 | n + 1, h => by
  have hd : n < (s.drop i).length := by simp; omega
  have hg : s.getD (i + n) 0 = (s.drop i)[n] := by
   rw [List.getElem_drop, List.getD_eq_getElem?_getD, List.getElem?_eq_getElem (by omega)]; rfl
  rw [← Nat.add_assoc, lineOf, line_add s i n (by omega), List.take_succ_eq_append_getElem hd, List.count_append, hg]
  by_cases hc : ((s.drop i)[n]).toNat = 10
  ·rw [if_pos hc, (ten_iff _).1 hc]
   simp; omega
  ·rw [if_neg hc]
   have : (s.drop i)[n] ≠ 10 := fun e => hc ((ten_iff _).2 e)
   rw [List.count_singleton, if_neg (by simpa using this)]; rfl
def lexS (s : List UInt8) (f : Nat) (i : Nat) : List Tk × Int × Nat := match f with
 | 0 => ([], 0, 0)
 | f + 1 =>
  let t := skip (s.drop i)
  let j := s.length - t.length
  if t.length = 0 then ([], 0, 0)
  else
   let r := tokL t
   if r.e ≠ 0 then ([], r.e, j + r.off)
   else
    let x := lexS s f (j + r.n)
    (⟨r.k, t.take r.n, r.v, j⟩ :: x.1, x.2)
end Go.Proofs.YtnbmpfdffoidaaaGreatDoor.X
