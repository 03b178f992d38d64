/- Texts of the proof, joined: SynComp2, LexPlain, ShelfLex, Base, Sched, Bytes, Laws. -/
import Derived.Test.YtnbmpfdffoidaaaGreatSp01
import Derived.Shelf.Small.Strs
import Derived.Shelf.Strings.Search1
import Derived.Shelf.Strings.Count
import Derived.Shelf.Strings.LastIndex
import Derived.Shelf.Strings.Prefix
import Derived.Test.YtnbmpfdffoidaaaGreatProg
import Derived.Test.YtnbmpfdffoidaaaGreatRows
import Derived.WalkKit
import Derived.WalkSpells
import Derived.WalkLawsBesides
import Derived.Below
import Derived.Lib.Hide
import Derived.Deep.Draws
import Derived.OrdersHeld
import Derived.Deep.RegionHeld
import Derived.Deep.RegionHeld3
import Derived.Laws.OwnMore
import Derived.Deep.AppendLies
import Derived.Laws.CopyOwn
import Derived.Maps.AppendAt
import Derived.OwnWalk
import Derived.Laws.BitsAllLaws
import Derived.Laws.BitsLemmas
import Derived.Lib.AppendStr
import Derived.Laws.MakeOwn
import Derived.Laws.IdiomStrings
import Derived.Laws.BytesString
set_option linter.unusedVariables false
set_option linter.unusedSimpArgs false
set_option maxHeartbeats 8000000
set_option maxRecDepth 100000
namespace Go.Proofs.YtnbmpfdffoidaaaGreat.Y
open O V S
def okNum (n : Int) : Prop := 0 ≤ n ∧ n ≤ 9223372036854775807
mutual
def okS : St → Prop
 | .let_ n e => isNameL n = true ∧ okX e
 | .set n e => isNameL n = true ∧ okX e
 | .put t c k e => isNameL t = true ∧ isNameL c = true ∧ okX k ∧ okX e
 | .del t k => isNameL t = true ∧ okX k
 | .if_ e b els => okX e ∧ (okB b ∧ b.len ≤ 24) ∧ okB els ∧ els.len ≤ 24
 | .loop n name b => okNum n ∧ isNameL name = true ∧ okB b ∧ b.len ≤ 24
 | .each n t lo hi k b => (isNameL n = true ∧ isNameL t = true) ∧ (okX lo ∧ okX hi) ∧ okNum k ∧ okB b ∧ b.len ≤ 24
 | .roll => True
 | .emit e => okX e
def okB : Sts → Prop
 | .nil => True
 | .cons s r => okS s ∧ okB r
end
mutual
def ndS : St → Nat
 | .let_ _ e => nd e
 | .set _ e => nd e
 | .put _ _ k e => max (nd k + 1) (nd e)
 | .del _ k => nd k + 1
 | .if_ e b els => max (nd e) (max (ndB b + 1) (ndB els + 1))
 | .loop _ _ b => ndB b + 1
 | .each _ _ lo hi _ b => max (max (nd lo) (nd hi)) (ndB b + 1)
 | .roll => 0
 | .emit e => nd e
def ndB : Sts → Nat
 | .nil => 0
 | .cons s r => max (ndS s) (ndB r)
end
def Sts.app : Sts → Sts → Sts
 | .nil, b => b
 | .cons s r, b => .cons s (r.app b)
theorem Sts.app_nil : ∀ a : Sts, a.app .nil = a
 | .nil => rfl
 | .cons s r => by rw [Sts.app, Sts.app_nil r]
theorem Sts.snoc_app : ∀ (a : Sts) (s : St) (b : Sts), (a.snoc s).app b = a.app (.cons s b)
 | .nil, _, _ => rfl
 | .cons t r, s, b => by rw [Sts.snoc, Sts.app, Sts.app, Sts.snoc_app r]
theorem Sts.snoc_len : ∀ (a : Sts) (s : St), (a.snoc s).len = a.len + 1
 | .nil, _ => rfl
 | .cons t r, s => by rw [Sts.snoc, Sts.len, Sts.len, Sts.snoc_len r]
theorem pNum_tn (n : Int) (r : List Tok) : pNum (tn n :: r) = .ok n r := rfl
theorem Ev.num {α : Type} (n : Int) (r : List Tok) {g : Nat → Int → List Tok → Res α} {R : Res α} (k : Ev (fun f => g f n r) R) : Ev (fun f => (pNum (tn n :: r)).bind (g f)) R :=
 Ev.bind (p := fun _ => pNum (tn n :: r)) (Ev.of_eq fun _ => pNum_tn n r) k
theorem Ev.whole_ {x : Ex} (h : okX x) {d : Nat} (hd : d + nd x ≤ 16) (s : List UInt8) (hs : binS s = (0, 0)) (hs2 : s ≠ [91]) (r : List Tok) : Ev (fun f => pExpr f 0 d (toks0 x ++ tg s :: r)) (.ok x (tg s :: r)) := (back x h).ahead h hd s hs hs2 r
theorem Ev.line {x : Ex} (h : okX x) {d : Nat} (hd : d + nd x ≤ 16) (r : List Tok) : Ev (fun f => pLine f d (toks0 x ++ tg [59] :: r)) (.ok x r) :=
 Ev.bind (Ev.whole_ h hd [59] (by decide) (by decide) r) (Ev.wantG [59] r (Ev.ok _ _ _))
theorem Ev.key {x : Ex} (h : okX x) {d : Nat} (hd : d + (nd x + 1) ≤ 16) (r : List Tok) : Ev (fun f => pKey f d (tg [91] :: (toks0 x ++ tg [93] :: r))) (.ok x r) :=
 Ev.around (t := tg [91]) (k := fun f d r => pExpr f 0 d r) (by rw [isT_tg]; decide) (by omega) (u := tg [93]) (Ev.whole_ h (by omega) [93] (by decide) (by decide) _) (by rw [isT_tg]; decide)
theorem name_kw {n : List UInt8} (h : isNameL n = true) (r : List Tok) : ((isT (tw n :: r) w_let = false ∧ isT (tw n :: r) w_del = false) ∧ (isT (tw n :: r) w_if = false ∧ isT (tw n :: r) w_loop = false)) ∧ (isT (tw n :: r) w_each = false ∧ isT (tw n :: r) w_rollback = false) ∧ isT (tw n :: r) w_emit = false :=
 ⟨⟨⟨isT_name h (by decide) r, isT_name h (by decide) r⟩, isT_name h (by decide) r, isT_name h (by decide) r⟩, ⟨isT_name h (by decide) r, isT_name h (by decide) r⟩, isT_name h (by decide) r⟩
theorem first_S : ∀ s, okS s → ∃ w r, toksS s = tw w :: r ∧ w ≠ [125] ∧ w ≠ w_else
 | .let_ n e, _ => ⟨_, _, by rw [toksS], by decide, by decide⟩
 | .set n e, h => ⟨_, _, by rw [toksS], name_ne h.1 (by decide), name_ne h.1 (by decide)⟩
 | .put t c k e, h => ⟨_, _, by rw [toksS], name_ne h.1 (by decide), name_ne h.1 (by decide)⟩
 | .del t k, _ => ⟨_, _, by rw [toksS], by decide, by decide⟩
 | .if_ e b els, _ => ⟨_, _, by rw [toksS], by decide, by decide⟩
 | .loop n name b, _ => ⟨_, _, by rw [toksS], by decide, by decide⟩
 | .each n t lo hi k b, _ => ⟨_, _, by rw [toksS], by decide, by decide⟩
 | .roll, _ => ⟨_, _, by rw [toksS], by decide, by decide⟩
 | .emit e, _ => ⟨_, _, by rw [toksS], by decide, by decide⟩
theorem Ev.aroundB {d : Nat} {b : Sts} {r : List Tok} (hd : d + 1 ≤ 16) (h : Ev (fun f => pStmts f (d + 1) .nil (toksB b ++ tg [125] :: r)) (.ok b (tg [125] :: r))) : Ev (fun f => pBlock f d (tg [123] :: (toksB b ++ tg [125] :: r))) (.ok b r) := by
 refine Ev.step (q := fun f => Y.around [123] [125] d (tg [123] :: (toksB b ++ tg [125] :: r)) fun d r => pStmts f d .nil r) (fun f => by rw [pBlock]) ?_
 exact Ev.around (t := tg [123]) (k := fun f d r => pStmts f d .nil r) (by rw [isT_tg]; decide) (by omega) (u := tg [125]) h (by rw [isT_tg]; decide)
mutual
theorem backS : ∀ s, okS s → ∀ d rest, d + ndS s ≤ 16 → isT rest w_else = false → Ev (fun f => pStmt f d (toksS s ++ rest)) (.ok s rest)
  | .let_ n e, h, d, rest, hd, _ => by
    have h : isNameL n = true ∧ okX e := by simpa only [okS] using h
    have hd : d + nd e ≤ 16 := by simpa only [ndS] using hd
    have e1 : toksS (.let_ n e) ++ rest = tw w_let :: tw n :: tg [61] :: (toks0 e ++ tg [59] :: rest) := by simp [toksS]
    rw [e1]
    apply Ev.step
    · intro f; rw [pStmt, isT_tw, if_pos (by decide), List.tail_cons]
    · exact Ev.name h.1 _ (Ev.wantG [61] _ (Ev.bind (Ev.line h.2 hd rest) (Ev.ok _ _ _)))
  | .set n e, h, d, rest, hd, _ => by
    have h : isNameL n = true ∧ okX e := by simpa only [okS] using h
    have hd : d + nd e ≤ 16 := by simpa only [ndS] using hd
    have e1 : toksS (.set n e) ++ rest = tw n :: tg [61] :: (toks0 e ++ tg [59] :: rest) := by simp [toksS]
    obtain ⟨⟨⟨k1, k2⟩, k3, k4⟩, ⟨k5, k6⟩, k7⟩ := name_kw h.1 (tg [61] :: (toks0 e ++ tg [59] :: rest))
    rw [e1]
    apply Ev.step
    · intro f; rw [pStmt, k1, k2, k3, k4, k5, k6, k7]
    · refine Ev.name h.1 _ ?_
      rw [isT_tg, show decide (([61] : List UInt8) = [91]) = false by decide]
      simp only [Bool.false_eq_true, if_false]
      exact Ev.wantG [61] _ (Ev.bind (Ev.line h.2 hd rest) (Ev.ok _ _ _))
  | .put t c k e, h, d, rest, hd, _ => by
    have h : isNameL t = true ∧ isNameL c = true ∧ okX k ∧ okX e := by simpa only [okS] using h
    have hd : d + max (nd k + 1) (nd e) ≤ 16 := by simpa only [ndS] using hd
    have e1 : toksS (.put t c k e) ++ rest = tw t :: (tg [91] :: (toks0 k ++ tg [93] :: (tg [46] :: tw c :: tg [61] :: (toks0 e ++ tg [59] :: rest)))) := by simp [toksS]
    obtain ⟨⟨⟨k1, k2⟩, k3, k4⟩, ⟨k5, k6⟩, k7⟩ := name_kw h.1 (tg [91] :: (toks0 k ++ tg [93] :: (tg [46] :: tw c :: tg [61] :: (toks0 e ++ tg [59] :: rest))))
    rw [e1]
    apply Ev.step
    · intro f; rw [pStmt, k1, k2, k3, k4, k5, k6, k7]
    · refine Ev.name h.1 _ ?_
      rw [isT_tg, show decide (([91] : List UInt8) = [91]) = true by decide]
      simp only [if_true]
      refine Ev.bind (Ev.key h.2.2.1 (by omega) _) ?_
      exact Ev.wantG [46] _ (Ev.name h.2.1 _ (Ev.wantG [61] _ (Ev.bind (Ev.line h.2.2.2 (by omega) rest) (Ev.ok _ _ _))))
  | .del t k, h, d, rest, hd, _ => by
    have h : isNameL t = true ∧ okX k := by simpa only [okS] using h
    have hd : d + (nd k + 1) ≤ 16 := by simpa only [ndS] using hd
    have e1 : toksS (.del t k) ++ rest = tw w_del :: tw t :: (tg [91] :: (toks0 k ++ tg [93] :: (tg [59] :: rest))) := by simp [toksS]
    rw [e1]
    apply Ev.step
    · intro f; rw [pStmt, isT_tw, if_neg (by decide), isT_tw, if_pos (by decide), List.tail_cons]
    · exact Ev.name h.1 _ (Ev.bind (Ev.key h.2 hd _) (Ev.wantG [59] _ (Ev.ok _ _ _)))
  | .if_ e b els, h, d, rest, hd, hr => by
    have h : okX e ∧ (okB b ∧ b.len ≤ 24) ∧ okB els ∧ els.len ≤ 24 := by simpa only [okS] using h
    have hd : d + max (nd e) (max (ndB b + 1) (ndB els + 1)) ≤ 16 := by simpa only [ndS] using hd
    have e1 : toksS (.if_ e b els) ++ rest = tw w_if :: (toks0 e ++ tg [123] :: (toksB b ++ tg [125] :: (elsT els (toksB els) ++ rest))) := by simp [toksS]
    have hb := backB b h.2.1.1 (d + 1) .nil (elsT els (toksB els) ++ rest) (by omega) (by simpa [Sts.len] using h.2.1.2)
    have hb2 := Ev.aroundB (d := d) (by omega) hb
    rw [e1]
    apply Ev.step
    · intro f; rw [pStmt, isT_tw, if_neg (by decide), isT_tw, if_neg (by decide), isT_tw, if_pos (by decide), List.tail_cons]
    · refine Ev.bind (Ev.whole_ h.1 (by omega) [123] (by decide) (by decide) _) (Ev.bind hb2 ?_)
      cases els with
      | nil =>
        rw [show elsT Sts.nil (toksB .nil) ++ rest = rest from rfl, hr]
        exact Ev.ok _ _ _
      | cons s r =>
        have hb := backB (.cons s r) h.2.2.1 (d + 1) .nil rest (by omega) (by simpa [Sts.len] using h.2.2.2)
        have hb2 := Ev.aroundB (d := d) (by omega) hb
        rw [show elsT (Sts.cons s r) (toksB (.cons s r)) ++ rest = tw w_else :: (tg [123] :: (toksB (.cons s r) ++ tg [125] :: rest)) by simp [elsT]]
        rw [isT_tw, show decide (w_else = w_else) = true by decide]
        simp only [if_true, List.tail_cons]
        exact Ev.bind hb2 (Ev.ok _ _ _)
  | .loop n name b, h, d, rest, hd, _ => by
    have h : okNum n ∧ isNameL name = true ∧ okB b ∧ b.len ≤ 24 := by simpa only [okS] using h
    have hd : d + (ndB b + 1) ≤ 16 := by simpa only [ndS] using hd
    have e1 : toksS (.loop n name b) ++ rest = tw w_loop :: tn n :: tw name :: (tg [123] :: (toksB b ++ tg [125] :: rest)) := by simp [toksS]
    have hb := backB b h.2.2.1 (d + 1) .nil rest (by omega) (by simpa [Sts.len] using h.2.2.2)
    have hb2 := Ev.aroundB (d := d) (by omega) hb
    rw [e1]
    apply Ev.step
    · intro f; rw [pStmt, isT_tw, if_neg (by decide), isT_tw, if_neg (by decide), isT_tw, if_neg (by decide), isT_tw, if_pos (by decide), List.tail_cons]
    · exact Ev.num n _ (Ev.name h.2.1 _ (Ev.bind hb2 (Ev.ok _ _ _)))
  | .each n t lo hi k b, h, d, rest, hd, _ => by
    have h : (isNameL n = true ∧ isNameL t = true) ∧ (okX lo ∧ okX hi) ∧ okNum k ∧ okB b ∧ b.len ≤ 24 := by simpa only [okS] using h
    have hd : d + max (max (nd lo) (nd hi)) (ndB b + 1) ≤ 16 := by simpa only [ndS] using hd
    have e1 : toksS (.each n t lo hi k b) ++ rest = tw w_each :: tw n :: tw w_in :: tw t :: tw w_from :: (toks0 lo ++ tw w_to :: (toks0 hi ++ tw w_max :: tn k :: (tg [123] :: (toksB b ++ tg [125] :: rest)))) := by simp [toksS]
    have hb := backB b h.2.2.2.1 (d + 1) .nil rest (by omega) (by simpa [Sts.len] using h.2.2.2.2)
    have hb2 := Ev.aroundB (d := d) (by omega) hb
    rw [e1]
    apply Ev.step
    · intro f; rw [pStmt, isT_tw, if_neg (by decide), isT_tw, if_neg (by decide), isT_tw, if_neg (by decide), isT_tw, if_neg (by decide), isT_tw, if_pos (by decide), List.tail_cons]
    · refine Ev.name h.1.1 _ (Ev.wantW w_in _ (Ev.name h.1.2 _ (Ev.wantW w_from _ ?_)))
      refine Ev.bind ((back lo h.2.1.1).aheadW h.2.1.1 (by omega) w_to (by decide) _) (Ev.wantW w_to _ ?_)
      refine Ev.bind ((back hi h.2.1.2).aheadW h.2.1.2 (by omega) w_max (by decide) _) (Ev.wantW w_max _ ?_)
      exact Ev.num k _ (Ev.bind hb2 (Ev.ok _ _ _))
  | .roll, _, d, rest, _, _ => by
    have e1 : toksS .roll ++ rest = tw w_rollback :: tg [59] :: rest := by simp [toksS]
    rw [e1]
    apply Ev.step
    · intro f; rw [pStmt, isT_tw, if_neg (by decide), isT_tw, if_neg (by decide), isT_tw, if_neg (by decide), isT_tw, if_neg (by decide), isT_tw, if_neg (by decide), isT_tw, if_pos (by decide), List.tail_cons]
    · exact Ev.wantG [59] _ (Ev.ok _ _ _)
  | .emit e, h, d, rest, hd, _ => by
    have h : okX e := by simpa only [okS] using h
    have hd : d + nd e ≤ 16 := by simpa only [ndS] using hd
    have e1 : toksS (.emit e) ++ rest = tw w_emit :: (toks0 e ++ tg [59] :: rest) := by simp [toksS]
    rw [e1]
    apply Ev.step
    · intro f; rw [pStmt, isT_tw, if_neg (by decide), isT_tw, if_neg (by decide), isT_tw, if_neg (by decide), isT_tw, if_neg (by decide), isT_tw, if_neg (by decide), isT_tw, if_neg (by decide), isT_tw, if_pos (by decide), List.tail_cons]
    · exact Ev.bind (Ev.line h hd rest) (Ev.ok _ _ _)
theorem backB : ∀ b, okB b → ∀ d a rest, d + ndB b ≤ 16 → a.len + b.len ≤ 24 → Ev (fun f => pStmts f d a (toksB b ++ tg [125] :: rest)) (.ok (a.app b) (tg [125] :: rest))
  | .nil, _, d, a, rest, _, _ => by
    rw [Sts.app_nil]
    apply Ev.step
    · intro f; rw [show toksB .nil ++ tg [125] :: rest = tg [125] :: rest by simp [toksB], pStmts, if_pos (.inr (by rw [isT_tg]; decide))]
    · exact Ev.ok _ _ _
  | .cons s r, h, d, a, rest, hd, hl => by
    have h : okS s ∧ okB r := by simpa only [okB] using h
    have hd : d + max (ndS s) (ndB r) ≤ 16 := by simpa only [ndB] using hd
    have hl : a.len + (r.len + 1) ≤ 24 := by simpa only [Sts.len] using hl
    obtain ⟨w, t, e1, hw, _⟩ := first_S s h.1
    have e2 : toksB (.cons s r) ++ tg [125] :: rest = toksS s ++ (toksB r ++ tg [125] :: rest) := by simp [toksB]
    have helse : isT (toksB r ++ tg [125] :: rest) w_else = false := by
      cases r with
      | nil => rw [show toksB .nil ++ tg [125] :: rest = tg [125] :: rest by simp [toksB], isT_tg]; decide
      | cons s2 r2 =>
        have h2 : okS s2 ∧ okB r2 := by simpa only [okB] using h.2
        obtain ⟨w2, t2, e2, _, hw2⟩ := first_S s2 h2.1
        rw [show toksB (.cons s2 r2) ++ tg [125] :: rest = tw w2 :: (t2 ++ toksB r2 ++ tg [125] :: rest) by simp [toksB, e2], isT_tw]
        exact decide_eq_false hw2
    rw [e2]
    apply Ev.step
    · intro f
      rw [pStmts, if_neg (by rw [e1]; rintro (e | e); · simp at e
                             · rw [List.cons_append, isT_tw, decide_eq_false hw] at e; cases e), room, if_neg (by omega), bind_ok]
    · refine Ev.bind (backS s h.1 d _ (by omega) helse) ?_
      have := backB r h.2 d (a.snoc s) rest (by omega) (by rw [Sts.snoc_len]; omega)
      rwa [Sts.snoc_app] at this
end
structure okC (c : Cl) : Prop where
 n : isNameL c.name = true
 t : (c.k = 1 ∧ c.m = 0) ∨ (c.k = 2 ∧ c.m = 0) ∨ (c.k = 3 ∧ 1 ≤ c.m ∧ c.m ≤ 32)
theorem pTyp_toks {k m : Int} (h : (k = 1 ∧ m = 0) ∨ (k = 2 ∧ m = 0) ∨ (k = 3 ∧ 1 ≤ m ∧ m ≤ 32)) (r : List Tok) : pTyp (toksT k m ++ r) = .ok (k, m) r := by
 rcases h with ⟨e, e2⟩ | ⟨e, e2⟩ | ⟨e, e2⟩
 ·subst e e2
  rw [show toksT 1 0 ++ r = tw w_int :: r from rfl, pTyp, isT_tw, if_pos (by decide)]; rfl
 ·subst e e2
  rw [show toksT 2 0 ++ r = tw w_bool :: r from rfl, pTyp, isT_tw, if_neg (by decide), isT_tw, if_pos (by decide)]; rfl
 ·subst e
  rw [show toksT 3 m ++ r = tw w_text :: tn m :: r from rfl, pTyp, isT_tw, if_neg (by decide), isT_tw, if_neg (by decide), want_tw, bind_ok, pNum_tn, bind_ok, if_pos e2]
theorem pCol_toks {c : Cl} (h : okC c) (r : List Tok) : pCol (toksC c ++ r) = .ok c r := by
 rw [show toksC c ++ r = tw c.name :: (toksT c.k c.m ++ r) from rfl, pCol, pName_tw h.n, bind_ok, pTyp_toks h.t, bind_ok]
theorem isN_toks {c : Cl} (h : okC c) (r : List Tok) : isN (toksC c ++ r) = true := by
 show (decide ((1 : Int) = 1) && isNameL c.name) = true
 rw [h.n]; rfl
theorem isT_col {c : Cl} (h : okC c) (r : List Tok) (w : List UInt8) (hw : isNameL w = false) : isT (toksC c ++ r) w = false := isT_name h.n hw _
theorem Ev.col {α : Type} {c : Cl} (h : okC c) (r : List Tok) {g : Nat → Cl → List Tok → Res α} {R : Res α} (k : Ev (fun f => g f c r) R) : Ev (fun f => (pCol (toksC c ++ r)).bind (g f)) R :=
 Ev.bind (p := fun _ => pCol (toksC c ++ r)) (Ev.of_eq fun _ => pCol_toks h r) k
theorem backCs : ∀ (l : List Cl), (∀ c ∈ l, okC c) → ∀ a rest, a.length + l.length ≤ 8 → Ev (fun f => pCols f a (l.flatMap (fun c => toksC c ++ [tg [59]]) ++ tg [125] :: rest)) (.ok (a ++ l) rest)
 | [], _, a, rest, _ => by
  rw [List.append_nil]
  apply Ev.step
  ·intro f; rw [List.flatMap_nil, List.nil_append, pCols, isT_tg, if_pos (by decide), List.tail_cons]
  ·exact Ev.ok _ _ _
 | c :: l, h, a, rest, hl => by
  have hc := h c (by simp)
  rw [List.length_cons] at hl
  have e1 : (c :: l).flatMap (fun c => toksC c ++ [tg [59]]) ++ tg [125] :: rest = toksC c ++ (tg [59] :: (l.flatMap (fun c => toksC c ++ [tg [59]]) ++ tg [125] :: rest)) := by simp
  rw [e1]
  apply Ev.step
  ·intro f; rw [pCols, isT_col hc _ _ (by decide), if_neg (by decide), isN_toks hc, if_pos rfl, room, if_neg (by omega), bind_ok]
  ·refine Ev.col hc _ (Ev.wantG [59] _ ?_)
   have := backCs l (fun x hx => h x (by simp [hx])) (a ++ [c]) rest (by simp; omega)
   simpa using this
structure okT (t : Tb) : Prop where
 n : isNameL t.name = true
 r : okNum t.rows
 c : t.cols.length ≤ 8 ∧ ∀ c ∈ t.cols, okC c
theorem backT {t : Tb} (h : okT t) (rest : List Tok) : Ev (fun f => pTable f (toksTb t ++ rest)) (.ok t rest) := by
 have e1 : toksTb t ++ rest = tw w_table :: tw t.name :: tw w_rows :: tn t.rows :: tg [123] :: (t.cols.flatMap (fun c => toksC c ++ [tg [59]]) ++ tg [125] :: rest) := by simp [toksTb]
 rw [e1]
 refine Ev.wantW w_table _ (Ev.name h.n _ (Ev.wantW w_rows _ (Ev.num t.rows _ (Ev.wantG [123] _ ?_))))
 exact Ev.bind (backCs t.cols h.c.2 [] rest (by simpa using h.c.1)) (Ev.ok _ _ _)
theorem backPs : ∀ (l : List Cl), (∀ c ∈ l, okC c) → ∀ a rest, a.length + l.length ≤ 6 → Ev (fun f => pParams f a (l.flatMap (fun c => tg [44] :: toksC c) ++ tg [41] :: rest)) (.ok (a ++ l) (tg [41] :: rest))
 | [], _, a, rest, _ => by
  rw [List.append_nil]
  apply Ev.step
  ·intro f; rw [List.flatMap_nil, List.nil_append, pParams, isT_tg, if_neg (by decide)]
  ·exact Ev.ok _ _ _
 | c :: l, h, a, rest, hl => by
  have hc := h c (by simp)
  rw [List.length_cons] at hl
  have e1 : (c :: l).flatMap (fun c => tg [44] :: toksC c) ++ tg [41] :: rest = tg [44] :: (toksC c ++ (l.flatMap (fun c => tg [44] :: toksC c) ++ tg [41] :: rest)) := by simp
  rw [e1]
  apply Ev.step
  ·intro f; rw [pParams, isT_tg, if_pos (by decide), List.tail_cons, isN_toks hc, if_pos rfl, room, if_neg (by omega), bind_ok]
  ·refine Ev.col hc _ ?_
   have := backPs l (fun x hx => h x (by simp [hx])) (a ++ [c]) rest (by simp; omega)
   simpa using this
structure okP (p : Pc) : Prop where
 n : isNameL p.name = true
 c : p.params.length ≤ 6 ∧ ∀ c ∈ p.params, okC c
 b : (okB p.body ∧ p.body.len ≤ 24) ∧ ndB p.body + 1 ≤ 16
theorem backP {p : Pc} (h : okP p) (rest : List Tok) : Ev (fun f => pProc f (toksP p ++ rest)) (.ok p rest) := by
 have e1 : toksP p ++ rest = tw w_proc :: tw p.name :: tg [40] :: (toksPs p.params ++ tg [41] :: (tg [123] :: (toksB p.body ++ tg [125] :: rest))) := by simp [toksP]
 have hb := backB p.body h.b.1.1 1 .nil rest (by have := h.b.2; omega) (by simpa [Sts.len] using h.b.1.2)
 have hb2 := Ev.aroundB (d := 0) (by omega) hb
 rw [e1]
 refine Ev.wantW w_proc _ (Ev.name h.n _ (Ev.wantG [40] _ ?_))
 refine Ev.bind (a := p.params) (l := tg [41] :: (tg [123] :: (toksB p.body ++ tg [125] :: rest))) ?_ (Ev.wantG [41] _ (Ev.bind hb2 (Ev.ok _ _ _)))
 have hc := h.c
 generalize p.params = ps at *
 cases ps with
 | nil =>
  rw [show toksPs [] ++ tg [41] :: (tg [123] :: (toksB p.body ++ tg [125] :: rest)) = tg [41] :: (tg [123] :: (toksB p.body ++ tg [125] :: rest)) from rfl, isT_tg, show decide (([41] : List UInt8) = [41]) = true by decide]
  exact Ev.ok _ _ _
 | cons c l =>
  have h1 := hc.2 c (by simp)
  rw [show toksPs (c :: l) ++ tg [41] :: (tg [123] :: (toksB p.body ++ tg [125] :: rest)) = toksC c ++ (l.flatMap (fun c => tg [44] :: toksC c) ++ tg [41] :: (tg [123] :: (toksB p.body ++ tg [125] :: rest))) by simp [toksPs], isT_col h1 _ _ (by decide)]
  simp only [Bool.false_eq_true, if_false]
  refine Ev.col h1 _ ?_
  exact backPs l (fun x hx => hc.2 x (by simp [hx])) [c] _ (by have := hc.1; simp at this ⊢; omega)
theorem isT_table (t : Tb) (rest : List Tok) (w : List UInt8) : isT (toksTb t ++ rest) w = decide (w_table = w) := isT_tw _ _ _
theorem isT_proc (p : Pc) (rest : List Tok) (w : List UInt8) : isT (toksP p ++ rest) w = decide (w_proc = w) := isT_tw _ _ _
structure okW (w : Wk) : Prop where
 t : w.tables.length ≤ 8 ∧ ∀ t ∈ w.tables, okT t
 p : w.procs.length ≤ 8 ∧ ∀ p ∈ w.procs, okP p
theorem backTs : ∀ (l : List Tb), (∀ t ∈ l, okT t) → ∀ a rest, a.length + l.length ≤ 8 → isT rest w_table = false → Ev (fun f => pTables f a (l.flatMap toksTb ++ rest)) (.ok (a ++ l) rest)
 | [], _, a, rest, _, hr => by
  rw [List.append_nil]
  apply Ev.step
  ·intro f; rw [List.flatMap_nil, List.nil_append, pTables, hr]
  ·exact Ev.ok _ _ _
 | t :: l, h, a, rest, hl, hr => by
  rw [List.length_cons] at hl
  have e1 : (t :: l).flatMap toksTb ++ rest = toksTb t ++ (l.flatMap toksTb ++ rest) := by simp
  rw [e1]
  apply Ev.step
  ·intro f; rw [pTables, isT_table, if_pos (by decide), room, if_neg (by omega), bind_ok]
  ·refine Ev.bind (backT (h t (by simp)) _) ?_
   have := backTs l (fun x hx => h x (by simp [hx])) (a ++ [t]) rest (by simp; omega) hr
   simpa using this
theorem backPr : ∀ (l : List Pc), (∀ t ∈ l, okP t) → ∀ a rest, a.length + l.length ≤ 8 → isT rest w_proc = false → Ev (fun f => pProcs f a (l.flatMap toksP ++ rest)) (.ok (a ++ l) rest)
 | [], _, a, rest, _, hr => by
  rw [List.append_nil]
  apply Ev.step
  ·intro f; rw [List.flatMap_nil, List.nil_append, pProcs, hr]
  ·exact Ev.ok _ _ _
 | t :: l, h, a, rest, hl, hr => by
  rw [List.length_cons] at hl
  have e1 : (t :: l).flatMap toksP ++ rest = toksP t ++ (l.flatMap toksP ++ rest) := by simp
  rw [e1]
  apply Ev.step
  ·intro f; rw [pProcs, isT_proc, if_pos (by decide), room, if_neg (by omega), bind_ok]
  ·refine Ev.bind (backP (h t (by simp)) _) ?_
   have := backPr l (fun x hx => h x (by simp [hx])) (a ++ [t]) rest (by simp; omega) hr
   simpa using this
theorem backW {w : Wk} (h : okW w) : Ev (fun f => pWork f (toksW w)) (.ok w []) := by
 have h1 := backTs w.tables h.t.2 [] (w.procs.flatMap toksP) (by simpa using h.t.1) (by
  cases w.procs with
  | nil => rfl
  | cons p l => rw [List.flatMap_cons, isT_proc]; decide)
 have h2 := backPr w.procs h.p.2 [] [] (by simpa using h.p.1) rfl
 rw [List.append_nil] at h2
 refine Ev.bind h1 (Ev.bind h2 ?_)
 simp only [if_true, List.nil_append]
 exact Ev.ok _ _ _
end Go.Proofs.YtnbmpfdffoidaaaGreat.Y
namespace Go.Proofs.YtnbmpfdffoidaaaGreat.X
open O V S
def blankC (c : UInt8) : Bool := decide (c.toNat = 32) || (decide (c.toNat = 9) || (decide (c.toNat = 10) || decide (c.toNat = 13)))
def digitC (c : UInt8) : Bool := decide (48 ≤ c.toNat) && decide (c.toNat ≤ 57)
def wordC (c : UInt8) : Bool := smallC c || (digitC c || decide (c.toNat = 95))
def noteC (c : UInt8) : Bool := decide (c.toNat ≠ 10)
def runLen (p : UInt8 → Bool) : List UInt8 → Nat
 | [] => 0
 | c :: r => if p c then runLen p r + 1 else 0
theorem runLen_le (p : UInt8 → Bool) : ∀ l, runLen p l ≤ l.length
 | [] => by simp [runLen]
 | c :: r => by unfold runLen; split <;> simp [runLen_le p r]
theorem drop_run (p : UInt8 → Bool) : ∀ l : List UInt8, l.drop (runLen p l) = l.dropWhile p
 | [] => rfl
 | c :: r => by
  unfold runLen List.dropWhile
  cases h : p c
  ·simp
  ·simp [drop_run p r]
theorem while_len (p : UInt8 → Bool) (l : List UInt8) : (l.dropWhile p).length ≤ l.length := by
 rw [← drop_run]; simp
def skip : List UInt8 → List UInt8
 | [] => []
 | c :: r => if blankC c then skip r else if c.toNat = 35 then skip (r.dropWhile noteC) else c :: r
termination_by l => l.length
decreasing_by
 ·simp
 ·have := while_len noteC r; simp; omega
theorem skip_nil : skip [] = [] := by rw [skip]
theorem skip_blank {c : UInt8} (r : List UInt8) (h : blankC c = true) : skip (c :: r) = skip r := by rw [skip, if_pos h]
theorem skip_note {c : UInt8} (r : List UInt8) (h : c.toNat = 35) : skip (c :: r) = skip (r.dropWhile noteC) := by
 rw [skip, if_neg (by simp [blankC, h]), if_pos h]
theorem skip_stop {c : UInt8} (r : List UInt8) (h : blankC c = false) (h2 : c.toNat ≠ 35) : skip (c :: r) = c :: r := by
 rw [skip, if_neg (by simp [h]), if_neg h2]
theorem skip_len : ∀ (n : Nat) (l : List UInt8), l.length ≤ n → (skip l).length ≤ l.length
 | _, [], _ => by simp [skip_nil]
 | 0, c :: r, h => by simp at h
 | n + 1, c :: r, h => by
  simp at h
  by_cases h1 : blankC c = true
  ·rw [skip_blank r h1]
   have := skip_len n r h
   simp; omega
  ·by_cases h2 : c.toNat = 35
   ·rw [skip_note r h2]
    have h3 := while_len noteC r
    have := skip_len n (r.dropWhile noteC) (by omega)
    simp; omega
   ·rw [skip_stop r (by simpa using h1) h2]
    simp
theorem skip_while : ∀ l : List UInt8, skip (l.dropWhile blankC) = skip l
 | [] => rfl
 | c :: r => by
  by_cases h : blankC c = true
  ·rw [skip_blank r h, List.dropWhile_cons, if_pos h, skip_while r]
  ·rw [List.dropWhile_cons, if_neg h]
def Stops (l : List UInt8) : Prop := l = [] ∨ ∃ c r, l = c :: r ∧ blankC c = false ∧ c.toNat ≠ 35
theorem skip_suffix : ∀ (n : Nat) (l : List UInt8), l.length ≤ n → ∃ k, k ≤ l.length ∧ skip l = l.drop k
 | _, [], _ => ⟨0, by simp, by simp [skip_nil]⟩
 | 0, c :: r, h => by simp at h
 | n + 1, c :: r, h => by
  simp at h
  by_cases h1 : blankC c = true
  ·obtain ⟨k, hk, e⟩ := skip_suffix n r h
   exact ⟨k + 1, by simp; omega, by rw [skip_blank r h1, e]; simp⟩
  ·by_cases h2 : c.toNat = 35
   ·obtain ⟨k, hk, e⟩ := skip_suffix n (r.dropWhile noteC) (by have := while_len noteC r; omega)
    have h3 := while_len noteC r
    have hle := runLen_le noteC r
    refine ⟨k + runLen noteC r + 1, ?_, ?_⟩
    ·rw [← drop_run] at hk; simp at hk; simp; omega
    ·rw [skip_note r h2, e, ← drop_run, List.drop_drop, List.drop_succ_cons]
     congr 1; omega
   ·exact ⟨0, by simp, by rw [skip_stop r (by simpa using h1) h2]; simp⟩
structure Quo where
 n : Nat
 s : List UInt8
 bad : Option Nat
def wrongC (c : UInt8) : Bool := decide (c.toNat < 32) || decide (c.toNat > 126)
def escC (c : UInt8) : Bool := decide (c.toNat = 34) || decide (c.toNat = 92)
def orE (a b : Option Nat) : Option Nat := match a with | some k => some k | none => b
def quoS : List UInt8 → Nat → Quo → Option Quo
 | [], _, _ => none
 | [c], k, q => if c.toNat = 34 then some ⟨k, q.s, q.bad⟩ else none
 | c :: d :: r, k, q =>
  if c.toNat = 34 then some ⟨k, q.s, q.bad⟩
  else if c.toNat = 92 then quoS r (k + 2) ⟨0, q.s ++ [d], orE q.bad (if (!escC d || wrongC d) = true then some (k + 1) else none)⟩
  else quoS (d :: r) (k + 1) ⟨0, q.s ++ [c], orE q.bad (if wrongC c = true then some k else none)⟩
structure TokR where
 e : Int
 off : Nat
 k : Int
 n : Nat
 v : Val
def zeroV : Val := ⟨0, 0, []⟩
def two (a b : Nat) : Bool := (decide (a = 38) && decide (b = 38)) || ((decide (a = 124) && decide (b = 124)) || ((decide (a = 61) && decide (b = 61)) || ((decide (a = 33) && decide (b = 61)) || ((decide (a = 60) && decide (b = 61)) || (decide (a = 43) && decide (b = 43))))))
def signs : List Nat := [123, 125, 40, 41, 91, 93, 59, 44, 46, 61, 60, 43, 45, 42, 47, 37, 33]
def one (c : Nat) : Bool := signs.any (· = c)
def signL : List UInt8 → Nat
 | [] => 0
 | [c] => if one c.toNat then 1 else 0
 | c :: d :: _ => if two c.toNat d.toNat then 2 else if one c.toNat then 1 else 0
def numV (l : List UInt8) : Nat := l.foldl (fun n c => 10 * n + (c.toNat - 48)) 0
def numOk (l : List UInt8) : Bool := decide (numV l < 9223372036854775808) && (decide ((l.getD 0 0).toNat ≠ 48) || decide (l.length = 1))
def quoL (t : List UInt8) : TokR := match quoS (t.drop 1) 1 ⟨0, [], none⟩ with
 | none => ⟨12, t.length, 3, 0, zeroV⟩
 | some q => match q.bad with
  | some k => ⟨10, k, 3, 0, zeroV⟩
  | none => if q.s.length > 32 then ⟨2, 0, 3, 0, zeroV⟩ else ⟨0, 0, 3, q.n + 1, ⟨3, 0, q.s⟩⟩
def tokL : List UInt8 → TokR
 | [] => ⟨10, 0, 4, 0, zeroV⟩
 | c :: r =>
  if smallC c then (if runLen wordC (c :: r) > 16 then ⟨2, 0, 1, 0, zeroV⟩ else ⟨0, 0, 1, runLen wordC (c :: r), zeroV⟩)
  else if digitC c then (if numOk ((c :: r).take (runLen digitC (c :: r))) then ⟨0, 0, 2, runLen digitC (c :: r), ⟨1, (numV ((c :: r).take (runLen digitC (c :: r))) : Nat), []⟩⟩ else ⟨11, 0, 2, 0, zeroV⟩)
  else if c.toNat = 34 then quoL (c :: r)
  else if signL (c :: r) = 0 then ⟨10, 0, 4, 0, zeroV⟩ else ⟨0, 0, 4, signL (c :: r), zeroV⟩
structure Tk where
 k : Int
 text : List UInt8
 v : Val
 i : Nat
def lineOf (s : List UInt8) : Nat → Nat
 | 0 => 1
 | i + 1 => if (s.getD i 0).toNat = 10 then lineOf s i + 1 else lineOf s i
def startOf (s : List UInt8) : Nat → Nat
 | 0 => 0
 | i + 1 => if (s.getD i 0).toNat = 10 then i + 1 else startOf s i
theorem startOf_le (s : List UInt8) : ∀ i, startOf s i ≤ i
 | 0 => Nat.le_refl _
 | i + 1 => by
  have := startOf_le s i
  unfold startOf
  split <;> omega
theorem lineOf_le (s : List UInt8) : ∀ i, lineOf s i ≤ i + 1
 | 0 => Nat.le_refl _
 | i + 1 => by
  have := lineOf_le s i
  unfold lineOf
  split <;> omega
theorem start_no (s : List UInt8) (i : Nat) : ∀ n, (∀ j, i ≤ j → j < i + n → (s.getD j 0).toNat ≠ 10) → startOf s (i + n) = startOf s i
 | 0, _ => rfl
 | n + 1, h => by
  rw [← Nat.add_assoc, startOf, if_neg (h (i + n) (by omega) (by omega))]
  exact start_no s i n (fun j h1 h2 => h j h1 (by omega))
theorem start_at (s : List UInt8) (i p n : Nat) (hp : p < n) (h : (s.getD (i + p) 0).toNat = 10) (hn : ∀ j, p < j → j < n → (s.getD (i + j) 0).toNat ≠ 10) : startOf s (i + n) = i + p + 1 := by
 have := start_no s (i + p + 1) (n - p - 1) (fun j h1 h2 => by have := hn (j - i) (by omega) (by omega); rwa [show i + (j - i) = j by omega] at this)
 rw [show i + p + 1 + (n - p - 1) = i + n by omega] at this
 rw [this, startOf, if_pos h]
theorem ten_iff (c : UInt8) : c.toNat = 10 ↔ c = 10 := by
 constructor
 ·intro h; exact UInt8.toNat_inj.1 h
 ·intro h; subst h; rfl
theorem line_add (s : List UInt8) (i : Nat) : ∀ n, i + n ≤ s.length → lineOf s (i + n) = lineOf s i + ((s.drop i).take n).count 10
 | 0, _ => by simp
 | n + 1, h => by
  have hd : n < (s.drop i).length := by simp; omega
  have hg : s.getD (i + n) 0 = (s.drop i)[n] := by
   rw [List.getElem_drop, List.getD_eq_getElem?_getD, List.getElem?_eq_getElem (by omega)]; rfl
  rw [← Nat.add_assoc, lineOf, line_add s i n (by omega), List.take_succ_eq_append_getElem hd, List.count_append, hg]
  by_cases hc : ((s.drop i)[n]).toNat = 10
  ·rw [if_pos hc, (ten_iff _).1 hc]
   simp; omega
  ·rw [if_neg hc]
   have : (s.drop i)[n] ≠ 10 := fun e => hc ((ten_iff _).2 e)
   rw [List.count_singleton, if_neg (by simpa using this)]; rfl
def lexS (s : List UInt8) (f : Nat) (i : Nat) : List Tk × Int × Nat := match f with
 | 0 => ([], 0, 0)
 | f + 1 =>
  let t := skip (s.drop i)
  let j := s.length - t.length
  if t.length = 0 then ([], 0, 0)
  else
   let r := tokL t
   if r.e ≠ 0 then ([], r.e, j + r.off)
   else
    let x := lexS s f (j + r.n)
    (⟨r.k, t.take r.n, r.v, j⟩ :: x.1, x.2)
end Go.Proofs.YtnbmpfdffoidaaaGreat.X
namespace Go.Proofs
open Go.Shelf
def Tryz.lays137_ren : Go.Shelf.Ren := ⟨fun | 137 => 91 | 217 => 105 | 266 => 119 | n => n, fun | 9 => 9 | 5 => 5 | 3 => 3 | n => n, fun | n => n⟩
theorem Tryz.lays137 : Go.Proofs.Lays.n137 Tryz.prog Tryz.lays137_ren := {
 mixed := by kernel_rfl
 f137 := Tryz.func91.trans (congrArg some (by kernel_rfl))
 f217 := Tryz.func105.trans (congrArg some (by kernel_rfl))
 f266 := Tryz.func119.trans (congrArg some (by kernel_rfl))
 t3 := Tryz.underlying3
 a3 := Tryz.isAgg3
 z3 := Tryz.sizeOf3
 v3 := Tryz.zeroValue3
 t5 := Tryz.underlying5
 a5 := Tryz.isAgg5
 z5 := Tryz.sizeOf5
 v5 := Tryz.zeroValue5
 t9 := Tryz.underlying9
 a9 := Tryz.isAgg9
 z9 := Tryz.sizeOf9
 v9 := Tryz.zeroValue9 }
open Go.RowKit in
theorem Tryz.strings_IndexByte (s : ByteArray) (c : Int) (w : World) :
  Calls Tryz.prog 91 #[.string s, .int .u8 c] w fun e w' => e = .returned (.int .i64 (Lib.indexByte s.data.toList c.toNat.toUInt8)) ∧ w' = w := Any.strings_IndexByte Tryz.lays137 s c w
def Tryz.lays138_ren : Go.Shelf.Ren := ⟨fun | 138 => 34 | 195 => 67 | 218 => 68 | 143 => 69 | 219 => 92 | 217 => 105 | 225 => 106 | 224 => 107 | 267 => 108 | 266 => 119 | 314 => 120 | n => n, fun | 9 => 9 | 3 => 3 | 4 => 4 | 5 => 5 | 0 => 0 | 46 => 22 | 146 => 144 | 51 => 143 | n => n, fun | 1 => 0 | n => n⟩
theorem Tryz.lays138 : Go.Proofs.Lays.n138 Tryz.prog Tryz.lays138_ren := {
 mixed := by kernel_rfl
 f138 := Tryz.func34.trans (congrArg some (by kernel_rfl))
 f143 := Tryz.func69.trans (congrArg some (by kernel_rfl))
 f195 := Tryz.func67.trans (congrArg some (by kernel_rfl))
 f217 := Tryz.func105.trans (congrArg some (by kernel_rfl))
 f218 := Tryz.func68.trans (congrArg some (by kernel_rfl))
 f219 := Tryz.func92.trans (congrArg some (by kernel_rfl))
 f224 := Tryz.func107.trans (congrArg some (by kernel_rfl))
 f225 := Tryz.func106.trans (congrArg some (by kernel_rfl))
 f266 := Tryz.func119.trans (congrArg some (by kernel_rfl))
 f267 := Tryz.func108.trans (congrArg some (by kernel_rfl))
 f314 := Tryz.func120.trans (congrArg some (by kernel_rfl))
 t0 := Tryz.underlying0
 a0 := Tryz.isAgg0
 z0 := Tryz.sizeOf0
 v0 := Tryz.zeroValue0
 t3 := Tryz.underlying3
 a3 := Tryz.isAgg3
 z3 := Tryz.sizeOf3
 v3 := Tryz.zeroValue3
 t4 := Tryz.underlying4
 a4 := Tryz.isAgg4
 z4 := Tryz.sizeOf4
 v4 := Tryz.zeroValue4
 t5 := Tryz.underlying5
 a5 := Tryz.isAgg5
 z5 := Tryz.sizeOf5
 v5 := Tryz.zeroValue5
 t9 := Tryz.underlying9
 a9 := Tryz.isAgg9
 z9 := Tryz.sizeOf9
 v9 := Tryz.zeroValue9
 t46 := Tryz.underlying22
 a46 := Tryz.isAgg22
 z46 := Tryz.sizeOf22
 v46 := Tryz.zeroValue22
 t51 := Tryz.underlying143
 a51 := Tryz.isAgg143
 z51 := Tryz.sizeOf143
 v51 := Tryz.zeroValue143
 t146 := Tryz.underlying144
 a146 := Tryz.isAgg144
 z146 := Tryz.sizeOf144
 v146 := Tryz.zeroValue144
 g1 := by kernel_rfl }
open Go.RowKit Go.Lib in
theorem Tryz.strings_Count_one (s : ByteArray) (c : UInt8) (w : World) :
  Calls Tryz.prog 34 #[.string s, .string ⟨#[c]⟩] w fun e w' => e = .returned (.int .i64 (Lib.countByte s.data.toList c)) ∧ w' = w := Any.strings_Count_one Tryz.lays138 s c w
def Tryz.lays149_ren : Go.Shelf.Ren := ⟨fun | 149 => 87 | 222 => 70 | n => n, fun | 9 => 9 | 5 => 5 | 3 => 3 | 4 => 4 | n => n, fun | n => n⟩
theorem Tryz.lays149 : Go.Proofs.Lays.n149 Tryz.prog Tryz.lays149_ren := {
 mixed := by kernel_rfl
 f149 := Tryz.func87.trans (congrArg some (by kernel_rfl))
 f222 := Tryz.func70.trans (congrArg some (by kernel_rfl))
 t3 := Tryz.underlying3
 a3 := Tryz.isAgg3
 z3 := Tryz.sizeOf3
 v3 := Tryz.zeroValue3
 t4 := Tryz.underlying4
 a4 := Tryz.isAgg4
 z4 := Tryz.sizeOf4
 v4 := Tryz.zeroValue4
 t5 := Tryz.underlying5
 a5 := Tryz.isAgg5
 z5 := Tryz.sizeOf5
 v5 := Tryz.zeroValue5
 t9 := Tryz.underlying9
 a9 := Tryz.isAgg9
 z9 := Tryz.sizeOf9
 v9 := Tryz.zeroValue9 }
open Go.RowKit Go.Lib in
theorem Tryz.strings_LastIndexByte (s : ByteArray) (c : Int) (hs : s.size < 4611686018427387904) (w : World) :
  Calls Tryz.prog 87 #[.string s, .int .u8 c] w fun e w' => e = .returned (.int .i64 (Lib.lastIndexByte s c)) ∧ w' = w := Any.strings_LastIndexByte Tryz.lays149 s c hs w
def Tryz.lays148_ren : Go.Shelf.Ren := ⟨fun | 148 => 35 | 222 => 70 | 223 => 71 | 269 => 93 | n => n, fun | 9 => 9 | 3 => 3 | 4 => 4 | 5 => 5 | 146 => 144 | 51 => 143 | 46 => 22 | n => n, fun | n => n⟩
theorem Tryz.lays148 : Go.Proofs.Lays.n148 Tryz.prog Tryz.lays148_ren := {
 mixed := by kernel_rfl
 f148 := Tryz.func35.trans (congrArg some (by kernel_rfl))
 f222 := Tryz.func70.trans (congrArg some (by kernel_rfl))
 f223 := Tryz.func71.trans (congrArg some (by kernel_rfl))
 f269 := Tryz.func93.trans (congrArg some (by kernel_rfl))
 t3 := Tryz.underlying3
 a3 := Tryz.isAgg3
 z3 := Tryz.sizeOf3
 v3 := Tryz.zeroValue3
 t4 := Tryz.underlying4
 a4 := Tryz.isAgg4
 z4 := Tryz.sizeOf4
 v4 := Tryz.zeroValue4
 t5 := Tryz.underlying5
 a5 := Tryz.isAgg5
 z5 := Tryz.sizeOf5
 v5 := Tryz.zeroValue5
 t9 := Tryz.underlying9
 a9 := Tryz.isAgg9
 z9 := Tryz.sizeOf9
 v9 := Tryz.zeroValue9
 t46 := Tryz.underlying22
 a46 := Tryz.isAgg22
 z46 := Tryz.sizeOf22
 v46 := Tryz.zeroValue22
 t51 := Tryz.underlying143
 a51 := Tryz.isAgg143
 z51 := Tryz.sizeOf143
 v51 := Tryz.zeroValue143
 t146 := Tryz.underlying144
 a146 := Tryz.isAgg144
 z146 := Tryz.sizeOf144
 v146 := Tryz.zeroValue144 }
open Go.RowKit Go.Lib in
theorem Tryz.strings_LastIndex_one (s sub : ByteArray) (h1 : sub.size = 1) (hs : s.size < 4611686018427387904) (w : World) :
  Calls Tryz.prog 35 #[.string s, .string sub] w fun e w' => e = .returned (.int .i64 (Lib.lastIndexByte s ((sub[0]'(by omega)).toNat : Int))) ∧ w' = w := Any.strings_LastIndex_one Tryz.lays148 s sub h1 hs w
def Tryz.lays99_ren : Go.Shelf.Ren := ⟨fun | 99 => 90 | 206 => 104 | n => n, fun | 9 => 9 | 4 => 4 | 3 => 3 | n => n, fun | n => n⟩
theorem Tryz.lays99 : Go.Proofs.Lays.n99 Tryz.prog Tryz.lays99_ren := {
 mixed := by kernel_rfl
 f99 := Tryz.func90.trans (congrArg some (by kernel_rfl))
 f206 := Tryz.func104.trans (congrArg some (by kernel_rfl))
 t3 := Tryz.underlying3
 a3 := Tryz.isAgg3
 z3 := Tryz.sizeOf3
 v3 := Tryz.zeroValue3
 t4 := Tryz.underlying4
 a4 := Tryz.isAgg4
 z4 := Tryz.sizeOf4
 v4 := Tryz.zeroValue4
 t9 := Tryz.underlying9
 a9 := Tryz.isAgg9
 z9 := Tryz.sizeOf9
 v9 := Tryz.zeroValue9 }
open Go.RowKit Go.Lib in
theorem Tryz.strings_HasPrefix (s p : ByteArray) (w : World) :
  Calls Tryz.prog 90 #[.string s, .string p] w fun e w' => e = .returned (.bool (Lib.hasPrefix s.data.toList p.data.toList)) ∧ w' = w := Any.strings_HasPrefix Tryz.lays99 s p w
end Go.Proofs
namespace Go.Proofs.YtnbmpfdffoidaaaGreat
open Go.RowKit
theorem bthen {a b c : World} (h : Below a.heap.size a b) (k : Below b.heap.size b c) : Below a.heap.size a c := h.trans (k.mono h.size)
theorem ret_bool {a b : Bool} (h : a = b) : Ending.returned (.bool a) = .returned (.bool b) := by rw [h]
theorem acc {P : Program} {f : FuncId} {args : Array Value} {w0 w : World} {r : Ending} (hb : Below w0.heap.size w0 w)
  (h : Calls P f args w fun e w' => e = r ∧ Below w.heap.size w w') : Calls P f args w fun e w' => e = r ∧ Below w0.heap.size w0 w' :=
 h.mono fun _ _ ⟨he, k⟩ => ⟨he, bthen hb k⟩
end Go.Proofs.YtnbmpfdffoidaaaGreat
namespace Go.Proofs.YtnbmpfdffoidaaaGreat
open Go.RowKit
def Grow (w W : World) : Prop := Below w.heap.size w W
theorem Grow.out {w W : World} (h : Grow w W) : Below w.heap.size w W := h
theorem Grow.refl (w : World) : Grow w w := Below.refl _ _
theorem Grow.trans {a b c : World} (h : Grow a b) (k : Grow b c) : Grow a c := bthen h k
section
variable {P : Program} {ops : Array Oper} {Q : Exit → Act → World → Prop} {md : Region.Mode}
theorem wpAnyH_imp {S S' : World → Prop} (h : ∀ W, S' W → S W) : ∀ (fuel : Nat) (listed : Array Bool) (a : Act) (w : World), wpAnyH P md ops Q S' fuel listed a w → wpAnyH P md ops Q S fuel listed a w
 | 0, _, _, _, hh => hh
 | fuel + 1, _, _, _, hh => ⟨hh.1, fun i hi => wpOp_mono (fun a' w' h' => ⟨h w' h'.1, wpAnyH_imp h fuel _ a' w' h'.2⟩) (hh.2 i hi)⟩
def wpSched (P : Program) (ops : Array Oper) (Q : Exit → Act → World → Prop) : List (Nat × Bool) → Act → World → Prop
  | [], a, w => Q .normal a w
  | (i, true) :: rest, a, w => ∃ o, ops[i]? = some o ∧
      ((Region.wanted o (yielded ops a.tmps) = true ∧ ∃ v, (∀ W, Grow w W → (execOp a.eval o).run P W = .ok (.value v) W) ∧ wpSched P ops Q rest (a.put o.dst v) w) ∨
       (Region.wanted o (yielded ops a.tmps) = false ∧ wpSched P ops Q rest (a.put o.dst undef) w))
  | (i, false) :: rest, a, w => ∃ o, ops[i]? = some o ∧
      ((Region.wanted o (yielded ops a.tmps) = true ∧ o.wp P a w (fun a' w' => Grow w w' ∧ wpSched P ops Q rest a' w') Q) ∨
       (Region.wanted o (yielded ops a.tmps) = false ∧ wpSched P ops Q rest (a.put o.dst undef) w))
def schedOk (md : Region.Mode) (ops : Array Oper) : Array Bool → List (Nat × Bool) → Bool
 | listed, [] => (Region.ready md ops listed).isEmpty
 | listed, (i, true) :: rest => Region.free md ops listed i && (Region.ready md ops listed).contains i && schedOk md ops (listed.setIfInBounds i true) rest
 | listed, (i, false) :: rest => (Region.ready md ops listed == [i]) && schedOk md ops (listed.setIfInBounds i true) rest
theorem wpAnyH_sched (hs : Region.noSelect ops = true) (hQ : ∀ c a d v w, Q (.panic c) (a.put d v) w → Q (.panic c) a w) :
  ∀ (steps : List (Nat × Bool)) (listed : Array Bool) (a : Act) (w : World), schedOk md ops listed steps = true → wpSched P ops Q steps a w → wpAnyH P md ops Q (Grow w) steps.length listed a w
 | [], listed, a, w, hok, h => ⟨by simpa [schedOk] using hok, h⟩
 | (i, true) :: rest, listed, a, w, hok, h => by
  simp only [schedOk, Bool.and_eq_true] at hok
  obtain ⟨⟨hf, hr⟩, hok⟩ := hok
  obtain ⟨o, hi, h⟩ := h
  rcases h with ⟨hw, v, hv, h⟩ | ⟨hw, h⟩
  ·exact wpAnyH_take (v := v) hi hs hf hr (fun c a w => hQ c a o.dst v w) (.inl ⟨hw, hv⟩) (Grow.refl w) (wpAnyH_sched hs hQ rest _ _ w hok h)
  ·exact wpAnyH_take (v := undef) hi hs hf hr (fun c a w => hQ c a o.dst undef w) (.inr ⟨hw, rfl⟩) (Grow.refl w) (wpAnyH_sched hs hQ rest _ _ w hok h)
 | (i, false) :: rest, listed, a, w, hok, h => by
  simp only [schedOk, Bool.and_eq_true, beq_iff_eq] at hok
  obtain ⟨hr, hok⟩ := hok
  obtain ⟨o, hi, h⟩ := h
  refine wpAnyH_all hr (by simp) fun j hj => ?_
  obtain rfl : j = i := by simpa using hj
  unfold wpOp
  simp only [hi]
  rcases h with ⟨hw, h⟩ | ⟨hw, h⟩
  ·simp only [hw, if_true]
   refine .inl (Oper.wp_mono (fun a' w' h' => ⟨h'.1, ?_⟩) h)
   exact wpAnyH_imp (fun W hW => h'.1.trans hW) _ _ _ _ (wpAnyH_sched hs hQ rest _ a' w' hok h'.2)
  ·simp only [hw, Bool.false_eq_true, if_false]
   exact ⟨Grow.refl w, wpAnyH_sched hs hQ rest _ _ w hok h⟩
theorem wp_region_sched {id : Nat} {a : Act} {w : World} (steps : List (Nat × Bool)) (hm : P.follows .mixedOrders = true)
  (hok : (Region.noSelect ops && steps.length == ops.size && schedOk .any ops (Array.replicate ops.size false) steps) = true)
  (hQ : ∀ c a d v w, Q (.panic c) (a.put d v) w → Q (.panic c) a w) (h : wpSched P ops Q steps a w.drew) : (Code.region id ops true).wp P Q a w := by
 simp only [Bool.and_eq_true, beq_iff_eq] at hok
 obtain ⟨⟨hs, hl⟩, hok⟩ := hok
 refine wp_region_held (S := Grow w.drew) hm ?_
 rw [← hl]
 exact wpAnyH_sched hs hQ steps _ a w.drew (by rw [hl]; exact hok) h
theorem sskip {l : List Oper} {i : Nat} {b : Bool} {rest : List (Nat × Bool)} {a : Act} {w : World} {o : Oper} (hi : l[i]? = some o) (hw : Region.wanted o (yielded l.toArray a.tmps) = false)
  (h : wpSched P l.toArray Q rest (a.put o.dst undef) w) : wpSched P l.toArray Q ((i, b) :: rest) a w := by cases b <;> exact ⟨o, by simpa using hi, .inr ⟨hw, h⟩⟩
theorem sdone {a : Act} {w : World} (h : Q .normal a w) : wpSched P ops Q [] a w := h
theorem scall {l : List Oper} {i : Nat} {rest : List (Nat × Bool)} {a : Act} {w : World} {o : Oper} (hi : l[i]? = some o) (hw : Region.wanted o (yielded l.toArray a.tmps) = true)
  (h : ∀ K : Act → World → Prop, Shut (∀ a' w', Grow w w' → wpSched P l.toArray Q rest a' w' → K a' w') → o.wp P a w K Q) : wpSched P l.toArray Q ((i, false) :: rest) a w :=
 ⟨o, by simpa using hi, .inl ⟨hw, h _ (fun _ _ hg hk => ⟨hg, hk⟩)⟩⟩
theorem sreadx {l : List Oper} {i : Nat} {rest : List (Nat × Bool)} {a : Act} {w : World} {o : Oper} (hi : l[i]? = some o) (hw : Region.wanted o (yielded l.toArray a.tmps) = true)
  (h : ∃ v, (∀ W, Grow w W → (execOp a.eval o).run P W = .ok (.value v) W) ∧ wpSched P l.toArray Q rest (a.put o.dst v) w) : wpSched P l.toArray Q ((i, true) :: rest) a w := ⟨o, by simpa using hi, .inl ⟨hw, h⟩⟩
theorem swith {steps : List (Nat × Bool)} {a : Act} {w : World} {p : World → Prop} (h1 : ∀ W, Grow w W → p W) (h2 : (∀ W, Grow w W → p W) → wpSched P ops Q steps a w) : wpSched P ops Q steps a w := h2 h1
end
end Go.Proofs.YtnbmpfdffoidaaaGreat
namespace Go.Proofs.YtnbmpfdffoidaaaGreat
open Go.RowKit
def bv (l : List UInt8) : List Value := l.map fun c => .int .u8 (c.toNat : Int)
@[simp] theorem bv_length (l : List UInt8) : (bv l).length = l.length := by simp [bv]
theorem bv_get (l : List UInt8) (j : Nat) (h : j < l.length) : (bv l)[j]? = some (.int .u8 ((l[j]).toNat : Int)) := by simp [bv, h]
theorem bv_take (a : List UInt8) (k : Nat) : (bv a).take k = bv (a.take k) := by simp [bv, List.map_take]
theorem bv_drop (a : List UInt8) (k : Nat) : (bv a).drop k = bv (a.drop k) := by simp [bv, List.map_drop]
def Rd (w : World) (B size : Nat) (A : Option Addr) (n : Nat) (xs : List Value) : Prop :=
 xs.length = n * size ∧ (0 < xs.length → ∃ b off, A = some ⟨b, off, none⟩ ∧ b < B ∧ ∀ j, j < xs.length → w.cell? ⟨b, off + j, none⟩ = xs[j]?)
section
variable {w w' : World} {B B' size n : Nat} {A : Option Addr} {xs : List Value}
theorem Rd.nil_ : Rd w B size A 0 [] := ⟨by simp, fun h => absurd h (by simp)⟩
theorem Rd.keep (h : Rd w B size A n xs) (hk : ∀ p : Addr, p.block < B → w'.cell? p = w.cell? p) : Rd w' B size A n xs :=
 ⟨h.1, fun hn => by
  obtain ⟨b, off, e, hb, hc⟩ := h.2 hn
  exact ⟨b, off, e, hb, fun j hj => (hk _ hb).trans (hc j hj)⟩⟩
theorem Rd.more (h : Rd w B size A n xs) (hB : B ≤ B') : Rd w B' size A n xs :=
 ⟨h.1, fun hn => by
  obtain ⟨b, off, e, hb, hc⟩ := h.2 hn
  exact ⟨b, off, e, Nat.lt_of_lt_of_le hb hB, hc⟩⟩
theorem Rd.below (h : Rd w B size A n xs) (hb : Below B w w') : Rd w' B size A n xs := h.keep fun _ hp => hb.cell hp
theorem Rd.next (h : Rd w w.heap.size size A n xs) (hb : Below w.heap.size w w') : Rd w' w'.heap.size size A n xs := (h.below hb).more hb.size
theorem Rd.drew (h : Rd w B size A n xs) : Rd w.drew B size A n xs := h
theorem Rd.alloc (h : Rd w B size A n xs) (hB : B ≤ w.heap.size) (o : Obj) : Rd (w.alloc o) B size A n xs := h.keep fun p hp => World.cell?_alloc_lt w o p (by omega)
theorem Rd.setCell (h : Rd w B size A n xs) {p : Addr} (hB : B ≤ p.block) (u : Value) : Rd (w.setCell p u) B size A n xs :=
 h.keep fun q hq => World.cell?_setCell_other w p q u (fun e => by subst e; omega)
theorem Rd.of_own {base : Nat} {e : TypeId} {c : Nat} (h : w.ownsRow base e size (.slice A n c) n xs) : Rd w w.heap.size size A n xs := by
 refine ⟨h.1, fun hn => ?_⟩
 have hn0 : 0 < n := by
  rcases Nat.eq_zero_or_pos n with h0 | h0
  ·have := h.1; rw [h0] at this; omega
  ·exact h0
 obtain ⟨g, cap, hv, _, hlt⟩ := h.form hn0
 have hA : A = some ⟨g, 0, none⟩ := by injection hv
 refine ⟨g, 0, hA, hlt, fun j hj => ?_⟩
 have := h.cells (g := g) (by rw [hv]; rfl) j _ (List.getElem?_eq_getElem hj)
 rw [List.getElem?_eq_getElem hj, ← this]
 by_cases h0 : j = 0 <;> simp [Addr.add, h0]
theorem Rd.pos (h : Rd w B 1 A n xs) {k : Nat} (hk : k < n) : ∃ b off, A = some ⟨b, off, none⟩ ∧ b < B ∧ ∀ j, j < n → w.cell? ⟨b, off + j, none⟩ = xs[j]? := by
 have hl : xs.length = n := by have := h.1; omega
 obtain ⟨b, off, e, hb, hc⟩ := h.2 (by omega)
 exact ⟨b, off, e, hb, fun j hj => hc j (by omega)⟩
end
theorem Rd.take_ {w : World} {B n : Nat} {A : Option Addr} {l : List UInt8} (h : Rd w B 1 A n (bv l)) (k : Nat) : Rd w B 1 A (min n k) (bv (l.take k)) := by
 have hl : l.length = n := by have := h.1; simp at this; omega
 refine ⟨by simp; omega, fun hp => ?_⟩
 simp at hp
 obtain ⟨b, off, e, hb, hc⟩ := h.2 (by simp; omega)
 refine ⟨b, off, e, hb, fun j hj => ?_⟩
 simp at hj
 rw [hc j (by simp; omega), ← bv_take, List.getElem?_take, if_pos (by omega)]
theorem ba_append (a b : List UInt8) : (ByteArray.mk a.toArray) ++ (ByteArray.mk b.toArray) = ByteArray.mk (a ++ b).toArray := by
 apply ByteArray.ext
 simp
theorem Rd.from_ {w : World} {B n k : Nat} {A : Option Addr} {l : List UInt8} (h : Rd w B 1 A n (bv l)) (hk : k < n) : Rd w B 1 (A.map (·.add k)) (n - k) (bv (l.drop k)) := by
 have hl : l.length = n := by have := h.1; simp at this; omega
 obtain ⟨b, off, rfl, hb, hc⟩ := h.2 (by simp; omega)
 refine ⟨by simp; omega, fun _ => ⟨b, off + k, ?_, hb, fun j hj => ?_⟩⟩
 ·by_cases h0 : k = 0 <;> simp [Addr.add, h0]
 ·simp at hj
  rw [Nat.add_assoc, hc (k + j) (by simp; omega), ← bv_drop, List.getElem?_drop]
theorem Rd.mid {w : World} {B n k u : Nat} {A : Option Addr} {l : List UInt8} (h : Rd w B 1 A n (bv l)) (hk : k + u ≤ n) : Rd w B 1 (A.map (·.add k)) u (bv ((l.drop k).take u)) := by
 rcases Nat.eq_zero_or_pos u with rfl | hu
 ·exact Rd.nil_
 ·have := (h.from_ (k := k) (by omega)).take_ u
  rwa [Nat.min_eq_right (by omega)] at this
end Go.Proofs.YtnbmpfdffoidaaaGreat
namespace Go.Proofs.YtnbmpfdffoidaaaGreat
open Go.RowKit Go.Lib
def Elem (P : Program) (t e : TypeId) (size bytes : Nat) (z : Value) : Prop :=
 P.underlying t = some (.slice e) ∧ ∃ i, P.info? e = some i ∧ i.zero = some z ∧ i.size = size ∧ i.bytes = bytes ∧ z.cells.size = size ∧ 0 < size
section
variable {P : Program}
theorem run_app (w : World) {t e : TypeId} {size bytes : Nat} {z : Value} (hE : Elem P t e size bytes z) (ty : TypeId) (base : Nat) {A : Option Addr} {n c : Nat} {xs : List Value}
  (hown : w.ownsRow base e size (.slice A n c) n xs) {B m c' : Nat} {A' : Option Addr} {news : List Value} (hr : Rd w B size A' m news) (h1 : ∀ u ∈ news, u.oneCell' = true)
  (h63 : n + m ≤ maxLen) (hlim : (n + m) * bytes ≤ 140737488355328) (hbase : base ≤ w.heap.size) :
  ∃ A2 c2 w', (Builtin.append_ #[t, t] ty #[.slice A n c, .slice A' m c']).run P w = .ok (.slice A2 (n + m) c2) w' ∧ w'.ownsRow base e size (.slice A2 (n + m) c2) (n + m) (xs ++ news) ∧
   w.grownBy w' (Value.slice A n c).ownBlock ∧ ((Value.slice A2 (n + m) c2).ownBlock = (Value.slice A n c).ownBlock ∨ (Value.slice A2 (n + m) c2).ownBlock = some w.heap.size) := by
 obtain ⟨ht, i, hi, hz, hsize, hby, hzs, hsz⟩ := hE
 have fin : ∀ ad, A' = some ad → (∀ j u, news[j]? = some u → w.cell? (ad.add j) = some u) → ∃ A2 c2 w', (Builtin.append_ #[t, t] ty #[.slice A n c, .slice A' m c']).run P w = .ok (.slice A2 (n + m) c2) w' ∧
   w'.ownsRow base e size (.slice A2 (n + m) c2) (n + m) (xs ++ news) ∧ w.grownBy w' (Value.slice A n c).ownBlock ∧ ((Value.slice A2 (n + m) c2).ownBlock = (Value.slice A n c).ownBlock ∨ (Value.slice A2 (n + m) c2).ownBlock = some w.heap.size) := by
  rintro ad rfl hc
  obtain ⟨v', w', hrun, h2, h3, h4, h5⟩ := run_append_own_at (P := P) w base t ty e i z size bytes ht hi hz hsize hby hzs hsz _ n xs hown ad m c' news hr.1 hc h1 h63 hlim hbase
  rcases h2.2 with ⟨rfl, h0⟩ | ⟨g, cap, cur, rfl, _⟩
  ·have e0 : n + m = 0 := h0
   exact ⟨none, 0, w', by rw [hrun, e0], by rw [e0] at h2 ⊢; exact h2, h3, by rw [e0]; exact h5⟩
  ·exact ⟨_, _, w', hrun, h2, h3, h5⟩
 by_cases hm : 0 < news.length
 ·obtain ⟨b, off, rfl, _, hc⟩ := hr.2 hm
  refine fin _ rfl fun j u hu => ?_
  have hj : j < news.length := by
   rcases Nat.lt_or_ge j news.length with h | h
   ·exact h
   ·rw [List.getElem?_eq_none h] at hu; cases hu
  have := hc j hj
  rw [hu] at this
  by_cases h0 : j = 0
  ·subst h0; simpa [Addr.add] using this
  ·simpa [Addr.add, h0] using this
 ·have hn : news = [] := List.eq_nil_of_length_eq_zero (by omega)
  have hm0 : m = 0 := by
   have := hr.1
   rw [hn] at this
   rcases Nat.eq_zero_or_pos m with h | h
   ·exact h
   ·have := Nat.mul_pos h hsz; simp_all
  subst hm0 hn
  rcases A' with _ | ad
  ·have hrun : (Builtin.append_ #[t, t] ty #[.slice A n c, .slice none 0 c']).run P w = .ok (.slice A n c) w := by
    rcases hown.2 with ⟨hv, _⟩ | ⟨g, cap, cur, hv, _, _, hnc, _⟩
    ·rw [hv]
     simp [Builtin.append_, run_underlying ht, sizeOf, typeInfo, hi, Builtin.lenOf, Builtin.firstCells]
    ·rw [hv]
     simp [Builtin.append_, run_underlying ht, sizeOf, typeInfo, hi, Builtin.lenOf, Builtin.firstCells, hnc, storeCells]
   exact ⟨A, c, w, hrun, by simpa using hown, ⟨rfl, rfl, rfl, Nat.le_refl _, fun _ _ _ => rfl⟩, .inl rfl⟩
  ·exact fin ad rfl (fun j u hu => by simp at hu)
theorem wpList_app {w : World} {ops : Array Oper} {rest : List Oper} {o : Oper} {a : Act} {Q : Exit → Act → World → Prop} (hgd : o.guard = none) (s x : Operand) {t e : TypeId} {size bytes : Nat} {z : Value}
  (hE : Elem P t e size bytes z) (ho : o.op = .call { callee := .builtin .append, args := #[s, x], argTypes := #[t, t] })
  (base : Nat) {A : Option Addr} {n c : Nat} (xs : List Value) (hs : a.eval s = .slice A n c) (hown : w.ownsRow base e size (.slice A n c) n xs)
  {m c' : Nat} {A' : Option Addr} (hx : a.eval x = .slice A' m c') {B : Nat} (news : List Value) (hr : Rd w B size A' m news) (h1 : ∀ u ∈ news, u.oneCell' = true)
  (h63 : n + m ≤ maxLen) (hlim : (n + m) * bytes ≤ 140737488355328) (hbase : base ≤ w.heap.size)
  (h : ∀ A2 c2 w', w'.ownsRow base e size (.slice A2 (n + m) c2) (n + m) (xs ++ news) → w.grownBy w' (Value.slice A n c).ownBlock → ((Value.slice A2 (n + m) c2).ownBlock = (Value.slice A n c).ownBlock ∨ (Value.slice A2 (n + m) c2).ownBlock = some w.heap.size) →
   wpList P ops Q rest (a.put o.dst (.slice A2 (n + m) c2)) w') : wpList P ops Q (o :: rest) a w := by
 obtain ⟨A2, c2, w', hrun, h2, h3, h4⟩ := run_app (P := P) w hE o.type base hown (c' := c') hr h1 h63 hlim hbase
 refine wpList_plain hgd fun K hK => ?_
 unfold Oper.wp execOp
 simp only [ho, resolve, invoke, builtin, Sem.run_bind, Sem.run_pure, Result.andThen_ok, List.map_toArray, List.map_cons, List.map_nil, hs, hx, hrun]
 exact hK _ _ (h A2 c2 w' h2 h3 h4)
theorem Rd.built (w : World) (v : Value) (e : TypeId) : Rd (w.alloc (.cells #[v] e)) (w.heap.size + 1) 1 (some ⟨w.heap.size, 0, none⟩) 1 [v] := by
 refine ⟨by simp, fun _ => ⟨w.heap.size, 0, rfl, by omega, fun j hj => ?_⟩⟩
 have : j = 0 := by simpa using hj
 subst this
 rw [cell_of_row (w.alloc (.cells #[v] e)) w.heap.size _ #[v] e (0, 0) (heap_alloc_new w _)]
 rfl
theorem run_str (w : World) {src dst e : TypeId} (hs : P.underlying src = some (.slice e)) (he : P.underlying e = some (.int .u8)) (hd : P.underlying dst = some .string)
  {B n c : Nat} {A : Option Addr} {l : List UInt8} (h : Rd w B 1 A n (bv l)) : (convert src dst (.slice A n c)).run P w = .ok (.string ⟨l.toArray⟩) w := by
 have hl : l.length = n := by have := h.1; simp at this; omega
 subst hl
 rcases A with _ | ad
 ·have h0 : l = [] := by
   rcases l with _ | ⟨x, l⟩
   ·rfl
   ·obtain ⟨b, off, e1, _⟩ := h.2 (by simp); cases e1
  subst h0
  rw [List.length_nil, run_convert_bytes_string w src dst e none 0 c hs he hd]
  simp [Conv.bytesToString]
  rfl
 ·refine run_convert_bytes_back w src dst e ad c l hs he hd fun j hj => ?_
  obtain ⟨b, off, e1, _, hc⟩ := h.2 (by simp; omega)
  injection e1 with e1
  subst e1
  have := hc j (by simpa using hj)
  rw [bv_get l j hj] at this
  by_cases h0 : j = 0
  ·subst h0; simpa [Addr.add] using this
  ·simpa [Addr.add, h0] using this
end
end Go.Proofs.YtnbmpfdffoidaaaGreat
