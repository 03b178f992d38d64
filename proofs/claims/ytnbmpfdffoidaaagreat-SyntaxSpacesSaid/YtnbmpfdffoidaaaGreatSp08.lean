/- Texts of the proof, joined: SynSize, LexLives, LexAll2, SynTok, SynWrd. -/
import Derived.Test.YtnbmpfdffoidaaaGreatSp06
import Derived.Test.YtnbmpfdffoidaaaGreatSp07
set_option linter.unusedVariables false
set_option linter.unusedSimpArgs false
set_option maxHeartbeats 8000000
set_option maxRecDepth 100000
namespace Go.Proofs.YtnbmpfdffoidaaaGreat.Y
open O V S
def TokZ (t : Tok) : Prop := TokW t ∧ (t.1 = 2 → (decL t.2.2.n).length ≤ t.2.1.length)
def AllZ (l : List Tok) : Prop := ∀ t ∈ l, TokZ t
theorem AllZ.tail {l : List Tok} (h : AllZ l) : AllZ l.tail := fun t ht => h t (List.mem_of_mem_tail ht)
theorem AllZ.rest {t : Tok} {l : List Tok} (h : AllZ (t :: l)) : AllZ l := fun x hx => h x (by simp [hx])
theorem AllZ.w {l : List Tok} (h : AllZ l) : AllW l := fun t ht => (h t ht).1
def cw (e : Nat) (t : Tok) : Nat := (if t.1 = 3 then (quoteL t.2.2.s).length else t.2.1.length) + e
def W (e : Nat) : List Tok → Nat
 | [] => 0
 | t :: l => cw e t + W e l
variable {α β : Type} {e : Nat}
theorem W_nil : W e [] = 0 := rfl
theorem W_cons (t : Tok) (l : List Tok) : W e (t :: l) = cw e t + W e l := rfl
theorem W_app : ∀ l m : List Tok, W e (l ++ m) = W e l + W e m
 | [], m => by simp [W]
 | t :: l, m => by rw [List.cons_append, W_cons, W_cons, W_app l m]; omega
theorem cw_w (s : List UInt8) : cw e (tw s) = s.length + e := rfl
theorem cw_g (s : List UInt8) : cw e (tg s) = s.length + e := rfl
theorem cw_n (n : Int) : cw e (tn n) = (decL n).length + e := rfl
def Wt (Q : α → List Tok → Prop) : Res α → Prop
 | .ok a r => AllZ r ∧ Q a r
 | _ => True
theorem Wt.bind {Q : α → List Tok → Prop} {R : β → List Tok → Prop} {p : Res α} {f : α → List Tok → Res β} (h : Wt Q p) (k : ∀ a r, AllZ r → Q a r → Wt R (f a r)) : Wt R (p.bind f) := by
 cases p with
 | oof => trivial
 | bad => trivial
 | ok a r => exact k a r h.1 h.2
theorem Wt.mono {Q R : α → List Tok → Prop} {p : Res α} (h : Wt Q p) (k : ∀ a r, Q a r → R a r) : Wt R p := by
 cases p with
 | oof => trivial
 | bad => trivial
 | ok a r => exact ⟨h.1, k _ _ h.2⟩
theorem isT_cw {l : List Tok} {s : List UInt8} (h : isT l s = true) : W e l = s.length + e + W e l.tail := by
 cases l with
 | nil => cases h
 | cons t r =>
  unfold isT at h
  simp only [Bool.and_eq_true, decide_eq_true_eq] at h
  show cw e t + W e r = _
  rw [cw, if_neg h.2, h.1]; rfl
theorem want_wt {l : List Tok} (h : AllZ l) (s : List UInt8) : Wt (fun _ r => s.length + e + W e r ≤ W e l) (want l s) := by
 unfold want
 split
 ·rename_i hi
  exact ⟨h.tail, by rw [isT_cw hi]; exact Nat.le_refl _⟩
 ·trivial
theorem name_wt {l : List Tok} (h : AllZ l) : Wt (fun n r => n.length + e + W e r ≤ W e l) (pName l) := by
 cases l with
 | nil => trivial
 | cons t r =>
  show Wt _ (if t.1 = 1 ∧ isNameL t.2.1 = true then Res.ok t.2.1 r else .bad)
  split
  ·rename_i hn
   refine ⟨h.rest, ?_⟩
   rw [W_cons, cw, if_neg (by omega)]
   exact Nat.le_refl _
  ·trivial
theorem num_wt {l : List Tok} (h : AllZ l) : Wt (fun n r => (decL n).length + e + W e r ≤ W e l) (pNum l) := by
 cases l with
 | nil => trivial
 | cons t r =>
  show Wt _ (if t.1 = 2 then Res.ok t.2.2.n r else .bad)
  split
  ·rename_i hn
   have := (h t (by simp)).2 hn
   refine ⟨h.rest, ?_⟩
   rw [W_cons, cw, if_neg (by omega)]
   omega
  ·trivial
theorem room_wt {l : List Tok} (h : AllZ l) (n most : Nat) : Wt (fun _ r => r = l) (room n most l) := by
 unfold room
 split
 ·trivial
 ·exact ⟨h, rfl⟩
theorem around_wt {l : List Tok} {a b : List UInt8} {d : Nat} {k : Nat → List Tok → Res α} {f : α → Nat} (h : AllZ l) (hk : ∀ r, AllZ r → Wt (fun x r2 => f x + W e r2 ≤ W e r) (k (d + 1) r)) : Wt (fun x r => a.length + e + f x + (b.length + e) + W e r ≤ W e l) (around a b d l k) := by
 unfold around
 split
 ·rename_i hi
  have := isT_cw (e := e) hi
  split
  ·trivial
  ·refine (hk _ h.tail).bind fun x r hw hq => ?_
   refine (want_wt (e := e) hw b).bind fun _ r2 hw2 hq2 => ?_
   exact ⟨hw2, by simp only; omega⟩
 ·trivial
theorem W_br (x : Ex) (least : Nat) (t : List Tok) : W e t ≤ W e (br x least t) ∧ W e (br x least t) ≤ 1 + e + W e t + (1 + e) := by
 unfold br
 split
 ·rw [W_cons, W_app, W_cons, W_nil, cw_g, cw_g]
  simp only [List.length_cons, List.length_nil]
  omega
 ·omega
theorem W_br_mono (x : Ex) {a b : Nat} (h : a ≤ b) (t : List Tok) : W e (br x a t) ≤ W e (br x b t) := by
 by_cases hb : lvlX x < b
 ·have := (W_br (e := e) x a t).2
  rw [show br x b t = tg [40] :: (t ++ [tg [41]]) by unfold br; rw [if_pos hb], W_cons, W_app, W_cons, W_nil, cw_g, cw_g]
  simp only [List.length_cons, List.length_nil]
  omega
 ·rw [show br x b t = t by unfold br; rw [if_neg hb], show br x a t = t by unfold br; rw [if_neg (by omega)]]
  exact Nat.le_refl _
theorem br_no {x : Ex} {a : Nat} (h : a ≤ lvlX x) (t : List Tok) : br x a t = t := by unfold br; rw [if_neg (by omega)]
theorem W_0 (x : Ex) (least : Nat) : W e (toks0 x) ≤ W e (toksX x least) := (W_br x least _).1
theorem binS_inv (s : List UInt8) {op : Nat} (h : (binS s).1 = op) (hop : 1 ≤ op ∧ op ≤ 12) : s = signS op := by
 by_cases h1 : s = [124, 124]
 ·subst h1; obtain rfl : 1 = op := h; rfl
 by_cases h2 : s = [38, 38]
 ·subst h2; obtain rfl : 2 = op := h; rfl
 by_cases h3 : s = [61, 61]
 ·subst h3; obtain rfl : 3 = op := h; rfl
 by_cases h4 : s = [33, 61]
 ·subst h4; obtain rfl : 4 = op := h; rfl
 by_cases h5 : s = [60]
 ·subst h5; obtain rfl : 5 = op := h; rfl
 by_cases h6 : s = [60, 61]
 ·subst h6; obtain rfl : 6 = op := h; rfl
 by_cases h7 : s = [43]
 ·subst h7; obtain rfl : 7 = op := h; rfl
 by_cases h8 : s = [45]
 ·subst h8; obtain rfl : 8 = op := h; rfl
 by_cases h9 : s = [43, 43]
 ·subst h9; obtain rfl : 9 = op := h; rfl
 by_cases h10 : s = [42]
 ·subst h10; obtain rfl : 10 = op := h; rfl
 by_cases h11 : s = [47]
 ·subst h11; obtain rfl : 11 = op := h; rfl
 by_cases h12 : s = [37]
 ·subst h12; obtain rfl : 12 = op := h; rfl
 unfold binS at h
 rw [if_neg h1, if_neg h2, if_neg h3, if_neg h4, if_neg h5, if_neg h6, if_neg h7, if_neg h8, if_neg h9, if_neg h10, if_neg h11, if_neg h12] at h
 simp only at h
 omega
theorem opT_cw {l : List Tok} {op : Nat} (h : opT l = (op, lvlS op)) (hop : 1 ≤ op ∧ op ≤ 12) : W e l = (signS op).length + e + W e l.tail := by
 cases l with
 | nil => unfold opT at h; injection h with h1 h2; omega
 | cons t r =>
  show cw e t + W e r = _
  unfold opT at h
  simp only at h
  split at h
  ·rename_i h4
   have hs : t.2.1 = signS op := binS_inv _ (by rw [h]) hop
   rw [cw, if_neg (by omega), hs]; rfl
  ·injection h with h1 h2; omega
theorem lit_wt {l : List Tok} (h : AllZ l) {v : Val} (hv : pLit l = some v) : cw e (tv v) + W e l.tail ≤ W e l := by
 cases l with
 | nil => cases hv
 | cons t r =>
  show cw e (tv v) + W e r ≤ cw e t + W e r
  unfold pLit at hv
  simp only at hv
  have hz := h t (by simp)
  have : cw e (tv v) ≤ cw e t := by
   split at hv
   ·rename_i h1
    cases hv
    rw [tv, if_neg (by simp), if_pos rfl, if_pos rfl, cw_w, cw, if_neg (by omega), h1.2]
    exact Nat.le_refl _
   ·split at hv
    ·rename_i h1
     cases hv
     rw [tv, if_neg (by simp), if_pos rfl, if_neg (by simp), cw_w, cw, if_neg (by omega), h1.2]
     exact Nat.le_refl _
    ·split at hv
     ·rename_i h1
      injection hv with hv
      subst hv
      rcases h1 with h2 | h3
      ·obtain ⟨n, hn, en⟩ := hz.1.1 h2
       have := hz.2 h2
       rw [en] at this ⊢
       rw [tv, if_pos rfl, cw_n, cw, if_neg (by omega)]
       omega
      ·obtain ⟨s, hs, es⟩ := hz.1.2 h3
       have : cw e (tv t.2.2) = (quoteL s).length + e := by rw [es, tv, if_neg (by simp), if_neg (by simp), cw, if_pos rfl]
       rw [this, cw, if_pos h3, es]
       exact Nat.le_refl _
     ·cases hv
  omega
def EW (e lvl n : Nat) (x : Ex) (r : List Tok) : Prop := W e (toksX x (lvl + 1)) + W e r ≤ n ∧ (opT r).2 ≤ lvl
theorem expr_wt (e : Nat) : ∀ f, (∀ lvl d l, lvl ≤ 5 → AllZ l → Wt (EW e lvl (W e l)) (pExpr f lvl d l)) ∧
  (∀ lvl d x l n, lvl ≤ 5 → AllZ l → W e (toksX x (lvl + 1)) + W e l ≤ n → W e (toksX x (opT l).2) + W e l ≤ n → Wt (EW e lvl n) (pLoop f lvl d x l)) ∧
  (∀ d l, AllZ l → Wt (fun x r => W e (toksX x 6) + W e r ≤ W e l) (pUnary f d l)) ∧
  (∀ d l, AllZ l → Wt (fun x r => W e (toksX x 7) + W e r ≤ W e l) (pOperand f d l))
 | 0 => ⟨fun _ _ _ _ _ => by rw [pExpr]; trivial, fun _ _ _ _ _ _ _ _ _ => by rw [pLoop]; trivial, fun _ _ _ => by rw [pUnary]; trivial, fun _ _ _ => by rw [pOperand]; trivial⟩
 | f + 1 => by
  obtain ⟨he, hl, hu, ho⟩ := expr_wt e f
  have he0 : ∀ d l, AllZ l → Wt (fun x r => W e (toks0 x) + W e r ≤ W e l) (pExpr f 0 d l) := fun d l h => (he 0 d l (by omega) h).mono fun x r hq => by
   have := W_0 (e := e) x (0 + 1)
   have := hq.1
   omega
  have hop5 : ∀ r, (opT r).2 ≤ 5 := fun r => by
   rcases opT_cases r with e | ⟨op, ho, e, _⟩
   ·omega
   ·rw [e]
    have := lvlS_bound ho
    simp only; omega
  refine ⟨fun lvl d l h1 hw => ?_, fun lvl d x l n h1 hw hx hx2 => ?_, fun d l hw => ?_, fun d l hw => ?_⟩
  ·rw [pExpr]
   refine (hu d l hw).bind fun x r hwr hq => ?_
   refine hl lvl d x r _ h1 hwr ?_ ?_
   ·have := W_br_mono (e := e) x (show lvl + 1 ≤ 6 by omega) (toks0 x)
    unfold toksX at hq ⊢
    omega
   ·have := W_br_mono (e := e) x (show (opT r).2 ≤ 6 by have := hop5 r; omega) (toks0 x)
    unfold toksX at hq ⊢
    omega
  ·rw [pLoop]
   split
   ·exact ⟨hw, hx, by assumption⟩
   ·rename_i hlt
    rcases opT_cases l with e0 | ⟨op, hop, e0, hl0⟩
    ·omega
    ·have hb := lvlS_bound hop
     have hcw := opT_cw (e := e) e0 hop
     rw [e0] at hlt hx2 ⊢
     simp only at hlt hx2 ⊢
     refine (he (lvlS op) d l.tail hb.2 hw.tail).bind fun y r hwr hq => ?_
     have hq1 := hq.1
     have hlv : lvlX (.bin op x y) = lvlS op := rfl
     have h0 : W e (toks0 (.bin op x y)) = W e (toksX x (lvlS op)) + ((signS op).length + e) + W e (toksX y (lvlS op + 1)) := by
      show W e (br x (lvlS op) (toks0 x) ++ tg (signS op) :: br y (lvlS op + 1) (toks0 y)) = _
      rw [W_app, W_cons, cw_g]; unfold toksX; omega
     refine hl lvl d (.bin op x y) r n h1 hwr ?_ ?_
     ·unfold toksX at h0 hq1 hx2 ⊢
      rw [br_no (by rw [hlv]; omega), h0]
      omega
     ·have := hq.2
      unfold toksX at h0 hq1 hx2 ⊢
      rw [br_no (by rw [hlv]; omega), h0]
      omega
  ·rw [pUnary]
   have hun : ∀ op s, s = (if op = 13 then [33] else [45]) → isT l s = true → Wt (fun x r => W e (toksX x 6) + W e r ≤ W e l) (if d = 16 then .bad else (pUnary f (d + 1) l.tail).bind fun x r => .ok (.un op x) r) := by
    intro op s hs hi
    have hc := isT_cw (e := e) hi
    split
    ·trivial
    ·refine (hu (d + 1) l.tail hw.tail).bind fun x r hwr hq => ⟨hwr, ?_⟩
     have h0 : W e (toksX (.un op x) 6) = s.length + e + W e (toksX x 6) := by
      show W e (br _ 6 (tg (if op = 13 then [33] else [45]) :: br x 6 (toks0 x))) = _
      rw [br_no (show 6 ≤ lvlX (.un op x) from Nat.le_refl _), W_cons, cw_g, ← hs]; rfl
     dsimp only
     rw [h0]; omega
   split
   ·exact hun 13 _ rfl (by assumption)
   ·split
    ·exact hun 14 _ rfl (by assumption)
    ·exact (ho d l hw).mono fun x r hq => by
      have := W_br_mono (e := e) x (show 6 ≤ 7 by omega) (toks0 x)
      unfold toksX at hq ⊢
      omega
  ·rw [pOperand]
   have leaf : ∀ x : Ex, lvlX x = 7 → W e (toksX x 7) = W e (toks0 x) := fun x h => by unfold toksX; rw [br_no (by omega)]
   cases hv : pLit l with
   | some v =>
    simp only
    refine ⟨hw.tail, ?_⟩
    dsimp only
    rw [leaf (.val v) rfl]
    have := lit_wt (e := e) hw hv
    show W e [tv v] + _ ≤ _
    rw [W_cons, W_nil]
    omega
   | none =>
    simp only
    split
    ·refine (around_wt (e := e) (f := fun x => W e (toks0 x)) hw fun r hr => he0 _ r hr).mono fun x r hq => ?_
     have := (W_br (e := e) x 7 (toks0 x)).2
     simp only [List.length_cons, List.length_nil] at hq
     unfold toksX
     omega
    ·split
     ·rename_i hi
      have hc := isT_cw (e := e) hi
      refine (around_wt (e := e) (f := fun x => W e (toksX x 7) - (w_has.length + e + (1 + e) + (1 + e))) hw.tail fun r hr => ?_).mono fun x r hq => ?_
      ·refine (name_wt (e := e) hr).bind fun n r1 hw1 hn => ?_
       refine (want_wt (e := e) hw1 _).bind fun _ r2 hw2 h2 => ?_
       refine (he0 _ r2 hw2).bind fun a r3 hw3 ha => ⟨hw3, ?_⟩
       simp only
       rw [leaf (.has n a) rfl]
       have h0 : W e (toks0 (.has n a)) = w_has.length + e + (1 + e) + (n.length + e) + (1 + e) + W e (toks0 a) + (1 + e) := by
        rw [toks0]
        simp only [W_cons, W_app, W_nil, cw_w, cw_g, List.length_cons, List.length_nil]; omega
       rw [h0]
       simp only [List.length_cons, List.length_nil] at h2
       omega
      ·simp only [List.length_cons, List.length_nil] at hq
       omega
     ·split
      ·rename_i hi
       have hc := isT_cw (e := e) hi
       refine (around_wt (e := e) (f := fun x => W e (toksX x 7) - (w_sum.length + e + (1 + e) + (1 + e))) hw.tail fun r hr => ?_).mono fun x r hq => ?_
       ·refine (name_wt (e := e) hr).bind fun n r1 hw1 hn => ?_
        refine (want_wt (e := e) hw1 _).bind fun _ r2 hw2 h2 => ?_
        refine (name_wt (e := e) hw2).bind fun c r3 hw3 h3 => ?_
        refine (want_wt (e := e) hw3 _).bind fun _ r4 hw4 h4 => ?_
        refine (he0 _ r4 hw4).bind fun a r5 hw5 ha => ?_
        refine (want_wt (e := e) hw5 _).bind fun _ r6 hw6 h6 => ?_
        refine (he0 _ r6 hw6).bind fun b r7 hw7 hb => ⟨hw7, ?_⟩
        simp only
        rw [leaf (.sum n c a b) rfl]
        have h0 : W e (toks0 (.sum n c a b)) = w_sum.length + e + (1 + e) + (n.length + e) + (1 + e) + (c.length + e) + (1 + e) + W e (toks0 a) + (1 + e) + W e (toks0 b) + (1 + e) := by
         rw [toks0]
         simp only [W_cons, W_app, W_nil, cw_w, cw_g, List.length_cons, List.length_nil]; omega
        rw [h0]
        simp only [List.length_cons, List.length_nil] at h2 h4 h6
        omega
       ·simp only [List.length_cons, List.length_nil] at hq
        omega
      ·split
       ·rename_i hi
        have hc := isT_cw (e := e) hi
        refine (around_wt (e := e) (f := fun x => W e (toksX x 7) - (w_count.length + e + (1 + e) + (1 + e))) hw.tail fun r hr => ?_).mono fun x r hq => ?_
        ·refine (name_wt (e := e) hr).bind fun n r1 hw1 hn => ?_
         refine (want_wt (e := e) hw1 _).bind fun _ r4 hw4 h4 => ?_
         refine (he0 _ r4 hw4).bind fun a r5 hw5 ha => ?_
         refine (want_wt (e := e) hw5 _).bind fun _ r6 hw6 h6 => ?_
         refine (he0 _ r6 hw6).bind fun b r7 hw7 hb => ⟨hw7, ?_⟩
         simp only
         rw [leaf (.cnt n a b) rfl]
         have h0 : W e (toks0 (.cnt n a b)) = w_count.length + e + (1 + e) + (n.length + e) + (1 + e) + W e (toks0 a) + (1 + e) + W e (toks0 b) + (1 + e) := by
          rw [toks0]
          simp only [W_cons, W_app, W_nil, cw_w, cw_g, List.length_cons, List.length_nil]; omega
         rw [h0]
         simp only [List.length_cons, List.length_nil] at h4 h6
         omega
        ·simp only [List.length_cons, List.length_nil] at hq
         omega
       ·refine (name_wt (e := e) hw).bind fun n r hwr hn => ?_
        split
        ·refine (around_wt (e := e) (f := fun x => W e (toks0 x)) hwr fun r1 hr1 => he0 _ r1 hr1).bind fun k r2 hw2 hk => ?_
         refine (want_wt (e := e) hw2 _).bind fun _ r3 hw3 h3 => ?_
         refine (name_wt (e := e) hw3).bind fun c r4 hw4 hc => ⟨hw4, ?_⟩
         dsimp only
         rw [leaf (.cell n c k) rfl]
         have h0 : W e (toks0 (.cell n c k)) = n.length + e + (1 + e) + W e (toks0 k) + (1 + e) + (1 + e) + (c.length + e) := by
          rw [toks0]
          simp only [W_cons, W_app, W_nil, cw_w, cw_g, List.length_cons, List.length_nil]; omega
         rw [h0]
         simp only [List.length_cons, List.length_nil] at hk h3
         omega
        ·refine ⟨hwr, ?_⟩
         dsimp only
         rw [leaf (.var n) rfl]
         show W e [tw n] + _ ≤ _
         rw [W_cons, W_nil, cw_w]
         omega
theorem whole_wt {f d : Nat} {l : List Tok} (hw : AllZ l) : Wt (fun x r => W e (toks0 x) + W e r ≤ W e l) (pExpr f 0 d l) := ((expr_wt e f).1 0 d l (by omega) hw).mono fun x r hq => by
 have := W_0 (e := e) x (0 + 1)
 have := hq.1
 omega
theorem line_wt {f d : Nat} {l : List Tok} (hw : AllZ l) : Wt (fun x r => W e (toks0 x) + (1 + e) + W e r ≤ W e l) (pLine f d l) := by
 refine (whole_wt (e := e) hw).bind fun x r hwr hx => ?_
 refine (want_wt (e := e) hwr _).bind fun _ r2 hw2 h2 => ⟨hw2, ?_⟩
 simp only [List.length_cons, List.length_nil] at h2
 omega
theorem key_wt {f d : Nat} {l : List Tok} (hw : AllZ l) : Wt (fun x r => (1 + e) + W e (toks0 x) + (1 + e) + W e r ≤ W e l) (pKey f d l) := around_wt (e := e) hw fun r hr => whole_wt hr
theorem W_snoc : ∀ (a : Sts) (s : St), W e (toksB (a.snoc s)) = W e (toksB a) + W e (toksS s)
 | .nil, s => by rw [Sts.snoc, toksB, toksB, W_app, toksB, W_nil]; omega
 | .cons t r, s => by rw [Sts.snoc, toksB, toksB, W_app, W_app, W_snoc r s]; omega
theorem W_els (b : Sts) (t : List Tok) : W e (elsT b t) ≤ 4 + e + (1 + e) + W e t + (1 + e) := by
 cases b with
 | nil => rw [elsT, W_nil]; omega
 | cons s r => rw [show elsT (.cons s r) t = tw w_else :: tg [123] :: (t ++ [tg [125]]) from rfl, W_cons, W_cons, W_app, W_cons, W_nil, cw_w, cw_g, cw_g]; simp only [w_else, List.length_cons, List.length_nil]; omega
theorem stmt_wt (e : Nat) : ∀ f, (∀ d l, AllZ l → Wt (fun s r => W e (toksS s) + W e r ≤ W e l) (pStmt f d l)) ∧
  (∀ d l, AllZ l → Wt (fun b r => (1 + e) + W e (toksB b) + (1 + e) + W e r ≤ W e l) (pBlock f d l)) ∧
  (∀ d a l, AllZ l → Wt (fun b r => W e (toksB b) + W e r ≤ W e (toksB a) + W e l) (pStmts f d a l))
 | 0 => ⟨fun _ _ _ => by rw [pStmt]; trivial, fun _ _ _ => by rw [pBlock]; trivial, fun _ _ _ _ => by rw [pStmts]; trivial⟩
 | f + 1 => by
  obtain ⟨hs, hb, ht⟩ := stmt_wt e f
  refine ⟨fun d l hw => ?_, fun d l hw => ?_, fun d a l hw => ?_⟩
  ·rw [pStmt]
   split
   ·rename_i hi
    have hc := isT_cw (e := e) hi
    refine (name_wt (e := e) hw.tail).bind fun n r1 hw1 h1 => ?_
    refine (want_wt (e := e) hw1 _).bind fun _ r2 hw2 h2 => ?_
    refine (line_wt (e := e) hw2).bind fun x r3 hw3 h3 => ⟨hw3, ?_⟩
    dsimp only
    rw [toksS]
    simp only [W_cons, W_app, W_nil, cw_w, cw_g, List.length_cons, List.length_nil] at h2 ⊢
    omega
   ·split
    ·rename_i hi
     have hc := isT_cw (e := e) hi
     refine (name_wt (e := e) hw.tail).bind fun n r1 hw1 h1 => ?_
     refine (key_wt (e := e) hw1).bind fun x r2 hw2 h2 => ?_
     refine (want_wt (e := e) hw2 _).bind fun _ r3 hw3 h3 => ⟨hw3, ?_⟩
     dsimp only
     rw [toksS]
     simp only [W_cons, W_app, W_nil, cw_w, cw_g, List.length_cons, List.length_nil] at h3 ⊢
     omega
    ·split
     ·rename_i hi
      have hc := isT_cw (e := e) hi
      refine (whole_wt (e := e) hw.tail).bind fun x r1 hw1 h1 => ?_
      refine (hb d r1 hw1).bind fun b r2 hw2 h2 => ?_
      split
      ·rename_i hi2
       have hc2 := isT_cw (e := e) hi2
       refine (hb d r2.tail hw2.tail).bind fun els r3 hw3 h3 => ⟨hw3, ?_⟩
       dsimp only
       rw [toksS]
       have := W_els (e := e) els (toksB els)
       simp only [W_cons, W_app, W_nil, cw_w, cw_g, w_if, w_else, List.length_cons, List.length_nil] at hc hc2 ⊢
       omega
      ·refine ⟨hw2, ?_⟩
       dsimp only
       rw [toksS, toksB, elsT]
       simp only [W_cons, W_app, W_nil, cw_w, cw_g, w_if, List.length_cons, List.length_nil] at hc ⊢
       omega
     ·split
      ·rename_i hi
       have hc := isT_cw (e := e) hi
       refine (num_wt (e := e) hw.tail).bind fun k r1 hw1 h1 => ?_
       refine (name_wt (e := e) hw1).bind fun n r2 hw2 h2 => ?_
       refine (hb d r2 hw2).bind fun b r3 hw3 h3 => ⟨hw3, ?_⟩
       dsimp only
       rw [toksS]
       simp only [W_cons, W_app, W_nil, cw_w, cw_g, cw_n, List.length_cons, List.length_nil] at hc ⊢
       omega
      ·split
       ·rename_i hi
        have hc := isT_cw (e := e) hi
        refine (name_wt (e := e) hw.tail).bind fun n r1 hw1 h1 => ?_
        refine (want_wt (e := e) hw1 _).bind fun _ r2 hw2 h2 => ?_
        refine (name_wt (e := e) hw2).bind fun t r3 hw3 h3 => ?_
        refine (want_wt (e := e) hw3 _).bind fun _ r4 hw4 h4 => ?_
        refine (whole_wt (e := e) hw4).bind fun lo r5 hw5 h5 => ?_
        refine (want_wt (e := e) hw5 _).bind fun _ r6 hw6 h6 => ?_
        refine (whole_wt (e := e) hw6).bind fun hi r7 hw7 h7 => ?_
        refine (want_wt (e := e) hw7 _).bind fun _ r8 hw8 h8 => ?_
        refine (num_wt (e := e) hw8).bind fun k r9 hw9 h9 => ?_
        refine (hb d r9 hw9).bind fun b r10 hw10 h10 => ⟨hw10, ?_⟩
        dsimp only
        rw [toksS]
        simp only [W_cons, W_app, W_nil, cw_w, cw_g, cw_n, List.length_cons, List.length_nil] at hc ⊢
        omega
       ·split
        ·rename_i hi
         have hc := isT_cw (e := e) hi
         refine (want_wt (e := e) hw.tail _).bind fun _ r1 hw1 h1 => ⟨hw1, ?_⟩
         dsimp only
         rw [toksS]
         simp only [W_cons, W_app, W_nil, cw_w, cw_g, List.length_cons, List.length_nil] at hc h1 ⊢
         omega
        ·split
         ·rename_i hi
          have hc := isT_cw (e := e) hi
          refine (line_wt (e := e) hw.tail).bind fun x r1 hw1 h1 => ⟨hw1, ?_⟩
          dsimp only
          rw [toksS]
          simp only [W_cons, W_app, W_nil, cw_w, cw_g, List.length_cons, List.length_nil] at hc ⊢
          omega
         ·refine (name_wt (e := e) hw).bind fun n r1 hw1 h1 => ?_
          split
          ·refine (key_wt (e := e) hw1).bind fun k r2 hw2 h2 => ?_
           refine (want_wt (e := e) hw2 _).bind fun _ r3 hw3 h3 => ?_
           refine (name_wt (e := e) hw3).bind fun c r4 hw4 h4 => ?_
           refine (want_wt (e := e) hw4 _).bind fun _ r5 hw5 h5 => ?_
           refine (line_wt (e := e) hw5).bind fun x r6 hw6 h6 => ⟨hw6, ?_⟩
           dsimp only
           rw [toksS]
           simp only [W_cons, W_app, W_nil, cw_w, cw_g, List.length_cons, List.length_nil] at h3 h5 ⊢
           omega
          ·refine (want_wt (e := e) hw1 _).bind fun _ r2 hw2 h2 => ?_
           refine (line_wt (e := e) hw2).bind fun x r3 hw3 h3 => ⟨hw3, ?_⟩
           dsimp only
           rw [toksS]
           simp only [W_cons, W_app, W_nil, cw_w, cw_g, List.length_cons, List.length_nil] at h2 ⊢
           omega
  ·rw [pBlock]
   refine (around_wt (e := e) (f := fun b => W e (toksB b)) hw fun r hr => (ht _ .nil r hr).mono fun b r2 hq => ?_).mono fun b r hq => hq
   rw [toksB, W_nil] at hq
   omega
  ·rw [pStmts]
   split
   ·exact ⟨hw, Nat.le_refl _⟩
   ·refine (room_wt hw _ _).bind fun _ r hwr hq => ?_
    subst hq
    refine (hs d r hwr).bind fun s r2 hw2 h2 => ?_
    refine (ht d (a.snoc s) r2 hw2).mono fun b r3 h3 => ?_
    rw [W_snoc] at h3
    omega
theorem typ_wt {l : List Tok} (h : AllZ l) : Wt (fun (t : Int × Int) r => W e (toksT t.1 t.2) + W e r ≤ W e l) (pTyp l) := by
 unfold pTyp
 split
 ·rename_i hi
  have hc := isT_cw (e := e) hi
  refine ⟨h.tail, ?_⟩
  show W e [tw w_int] + _ ≤ _
  rw [W_cons, W_nil, cw_w]; omega
 ·split
  ·rename_i hi
   have hc := isT_cw (e := e) hi
   refine ⟨h.tail, ?_⟩
   show W e [tw w_bool] + _ ≤ _
   rw [W_cons, W_nil, cw_w]; omega
  ·refine (want_wt (e := e) h _).bind fun _ r1 hw1 h1 => ?_
   refine (num_wt (e := e) hw1).bind fun k r2 hw2 h2 => ?_
   split
   ·refine ⟨hw2, ?_⟩
    show W e [tw w_text, tn k] + _ ≤ _
    rw [W_cons, W_cons, W_nil, cw_w, cw_n]; omega
   ·trivial
theorem col_wt {l : List Tok} (h : AllZ l) : Wt (fun c r => W e (toksC c) + W e r ≤ W e l) (pCol l) := by
 refine (name_wt (e := e) h).bind fun n r1 hw1 h1 => ?_
 refine (typ_wt (e := e) hw1).bind fun t r2 hw2 h2 => ⟨hw2, ?_⟩
 show W e (tw n :: toksT t.1 t.2) + _ ≤ _
 rw [W_cons, cw_w]; omega
theorem roomN_wt {l : List Tok} (h : AllZ l) (n most : Nat) : Wt (fun _ r => r = l) (if isN l then room n most l else .ok () l) := by
 split
 ·exact room_wt h n most
 ·exact ⟨h, rfl⟩
def WC (e : Nat) (a : List Cl) : Nat := W e (a.flatMap fun c => toksC c ++ [tg [59]])
theorem WC_snoc (a : List Cl) (c : Cl) : WC e (a ++ [c]) = WC e a + W e (toksC c) + (1 + e) := by
 unfold WC
 rw [List.flatMap_append, W_app]
 show _ + W e (toksC c ++ [tg [59]] ++ []) = _
 rw [List.append_nil, W_app, W_cons, W_nil, cw_g]
 simp only [List.length_cons, List.length_nil]; omega
theorem cols_wt : ∀ f a l, AllZ l → Wt (fun b r => WC e b + (1 + e) + W e r ≤ WC e a + W e l) (pCols f a l)
 | 0, _, _, _ => by rw [pCols]; trivial
 | f + 1, a, l, hw => by
  rw [pCols]
  split
  ·rename_i hi
   have hc := isT_cw (e := e) hi
   refine ⟨hw.tail, ?_⟩
   simp only [List.length_cons, List.length_nil] at hc
   omega
  ·refine (roomN_wt hw _ _).bind fun _ r hwr hq => ?_
   subst hq
   refine (col_wt (e := e) hwr).bind fun c r2 hw2 h2 => ?_
   refine (want_wt (e := e) hw2 _).bind fun _ r3 hw3 h3 => ?_
   refine (cols_wt f (a ++ [c]) r3 hw3).mono fun b r4 h4 => ?_
   rw [WC_snoc] at h4
   simp only [List.length_cons, List.length_nil] at h3
   omega
theorem ps_snoc {a : List Cl} (ha : a ≠ []) (c : Cl) : toksPs (a ++ [c]) = toksPs a ++ tg [44] :: toksC c := by
 cases a with
 | nil => exact absurd rfl ha
 | cons x r =>
  show toksC x ++ (r ++ [c]).flatMap _ = (toksC x ++ r.flatMap _) ++ _
  rw [List.flatMap_append, List.append_assoc]
  simp
theorem params_wt : ∀ f a l, a ≠ [] → AllZ l → Wt (fun b r => W e (toksPs b) + W e r ≤ W e (toksPs a) + W e l) (pParams f a l)
 | 0, _, _, _, _ => by rw [pParams]; trivial
 | f + 1, a, l, ha, hw => by
  rw [pParams]
  split
  ·rename_i hi
   have hc := isT_cw (e := e) hi
   refine (roomN_wt hw.tail _ _).bind fun _ r hwr hq => ?_
   subst hq
   refine (col_wt (e := e) hwr).bind fun c r2 hw2 h2 => ?_
   refine (params_wt f (a ++ [c]) r2 (by simp) hw2).mono fun b r4 h4 => ?_
   rw [ps_snoc ha, W_app, W_cons, cw_g] at h4
   simp only [List.length_cons, List.length_nil] at hc h4
   omega
  ·exact ⟨hw, Nat.le_refl _⟩
theorem table_wt {f : Nat} {l : List Tok} (hw : AllZ l) : Wt (fun t r => W e (toksTb t) + W e r ≤ W e l) (pTable f l) := by
 refine (want_wt (e := e) hw _).bind fun _ r1 hw1 h1 => ?_
 refine (name_wt (e := e) hw1).bind fun n r2 hw2 h2 => ?_
 refine (want_wt (e := e) hw2 _).bind fun _ r3 hw3 h3 => ?_
 refine (num_wt (e := e) hw3).bind fun k r4 hw4 h4 => ?_
 refine (want_wt (e := e) hw4 _).bind fun _ r5 hw5 h5 => ?_
 refine (cols_wt (e := e) f [] r5 hw5).bind fun c r6 hw6 h6 => ⟨hw6, ?_⟩
 have h0 : WC e [] = 0 := rfl
 have h7 : W e (toksTb ⟨n, k, c⟩) = w_table.length + e + (n.length + e) + (w_rows.length + e) + ((decL k).length + e) + (1 + e) + WC e c + (1 + e) := by
  unfold toksTb WC
  simp only [W_cons, W_app, W_nil, cw_w, cw_g, cw_n, List.length_cons, List.length_nil]; omega
 dsimp only
 rw [h7]
 simp only [List.length_cons, List.length_nil] at h5
 omega
theorem proc_wt {f : Nat} {l : List Tok} (hw : AllZ l) : Wt (fun t r => W e (toksP t) + W e r ≤ W e l) (pProc f l) := by
 refine (want_wt (e := e) hw _).bind fun _ r1 hw1 h1 => ?_
 refine (name_wt (e := e) hw1).bind fun n r2 hw2 h2 => ?_
 refine (want_wt (e := e) hw2 _).bind fun _ r3 hw3 h3 => ?_
 have hps : Wt (fun b r => W e (toksPs b) + W e r ≤ W e r3) (if isT r3 [41] then Res.ok [] r3 else (pCol r3).bind fun c r => pParams f [c] r) := by
  split
  ·exact ⟨hw3, by show 0 + _ ≤ _; omega⟩
  ·refine (col_wt (e := e) hw3).bind fun c r4 hw4 h4 => ?_
   refine (params_wt (e := e) f [c] r4 (by simp) hw4).mono fun b r5 h5 => ?_
   have : toksPs [c] = toksC c := by show toksC c ++ [] = _; simp
   rw [this] at h5
   omega
 refine hps.bind fun ps r4 hw4 h4 => ?_
 refine (want_wt (e := e) hw4 _).bind fun _ r5 hw5 h5 => ?_
 refine ((stmt_wt e f).2.1 0 r5 hw5).bind fun b r6 hw6 h6 => ⟨hw6, ?_⟩
 have h7 : W e (toksP ⟨n, ps, b⟩) = w_proc.length + e + (n.length + e) + (1 + e) + W e (toksPs ps) + (1 + e) + (1 + e) + W e (toksB b) + (1 + e) := by
  unfold toksP
  simp only [W_cons, W_app, W_nil, cw_w, cw_g, cw_n, List.length_cons, List.length_nil]; omega
 dsimp only
 rw [h7]
 simp only [List.length_cons, List.length_nil] at h3 h5
 omega
theorem flat_snoc {α : Type} (f : α → List Tok) (a : List α) (x : α) : W e ((a ++ [x]).flatMap f) = W e (a.flatMap f) + W e (f x) := by
 rw [List.flatMap_append, W_app]
 show _ + W e (f x ++ []) = _
 rw [List.append_nil]
theorem tables_wt : ∀ f a l, AllZ l → Wt (fun b r => W e (b.flatMap toksTb) + W e r ≤ W e (a.flatMap toksTb) + W e l) (pTables f a l)
 | 0, _, _, _ => by rw [pTables]; trivial
 | f + 1, a, l, hw => by
  rw [pTables]
  split
  ·refine (room_wt hw _ _).bind fun _ r hwr hq => ?_
   subst hq
   refine (table_wt (e := e) hwr).bind fun t r2 hw2 h2 => ?_
   refine (tables_wt f (a ++ [t]) r2 hw2).mono fun b r4 h4 => ?_
   rw [flat_snoc] at h4
   omega
  ·exact ⟨hw, Nat.le_refl _⟩
theorem procs_wt : ∀ f a l, AllZ l → Wt (fun b r => W e (b.flatMap toksP) + W e r ≤ W e (a.flatMap toksP) + W e l) (pProcs f a l)
 | 0, _, _, _ => by rw [pProcs]; trivial
 | f + 1, a, l, hw => by
  rw [pProcs]
  split
  ·refine (room_wt hw _ _).bind fun _ r hwr hq => ?_
   subst hq
   refine (proc_wt (e := e) hwr).bind fun t r2 hw2 h2 => ?_
   refine (procs_wt f (a ++ [t]) r2 hw2).mono fun b r4 h4 => ?_
   rw [flat_snoc] at h4
   omega
  ·exact ⟨hw, Nat.le_refl _⟩
theorem work_wt {f : Nat} {l : List Tok} (hw : AllZ l) : Wt (fun k _ => W e (toksW k) ≤ W e l) (pWork f l) := by
 refine (tables_wt (e := e) f [] l hw).bind fun t r hwr ht => ?_
 refine (procs_wt (e := e) f [] r hwr).bind fun p r2 hw2 hp => ?_
 split
 ·refine ⟨hw2, ?_⟩
  show W e (t.flatMap toksTb ++ p.flatMap toksP) ≤ _
  rw [W_app]
  have h0 : W e (([] : List Tb).flatMap toksTb) = 0 := rfl
  have h1 : W e (([] : List Pc).flatMap toksP) = 0 := rfl
  omega
 ·trivial
end Go.Proofs.YtnbmpfdffoidaaaGreat.Y
namespace Go.Proofs.YtnbmpfdffoidaaaGreat.X
open Go.RowKit O V S
def skipK : Nat → List UInt8 → List UInt8
 | 0, l => l
 | _ + 1, [] => []
 | n + 1, c :: r => if blankC c then skipK n r else if c.toNat = 35 then skipK n (r.dropWhile noteC) else c :: r
def lexK (s : List UInt8) (f : Nat) (i : Nat) : List Tk × Int × Nat := match f with
 | 0 => ([], 0, 0)
 | f + 1 =>
  let t := skipK s.length (s.drop i)
  let j := s.length - t.length
  if t.length = 0 then ([], 0, 0)
  else
   let r := tokL t
   if r.e ≠ 0 then ([], r.e, j + r.off)
   else
    let x := lexK s f (j + r.n)
    (⟨r.k, t.take r.n, r.v, j⟩ :: x.1, x.2)
def toks1 : List Tk := [⟨1, [97, 99, 99], zeroV, 0⟩, ⟨4, [91], zeroV, 3⟩, ⟨1, [97], zeroV, 4⟩, ⟨4, [93], zeroV, 5⟩, ⟨4, [46], zeroV, 6⟩, ⟨1, [98, 97, 108], zeroV, 7⟩, ⟨4, [61], zeroV, 11⟩, ⟨2, [53], ⟨1, 5, []⟩, 13⟩, ⟨4, [59], zeroV, 14⟩]
end Go.Proofs.YtnbmpfdffoidaaaGreat.X
namespace Go.Proofs.YtnbmpfdffoidaaaGreat.X
open Go.RowKit O V S
theorem below_own {w a b : World} {base e size n m : Nat} {A : Option Addr} {c : Nat} {xs : List Value} (h : Below w.heap.size w a) (ho : a.ownsRow base e size (.slice A n c) m xs) (k : a.grownBy b (Value.slice A n c).ownBlock) (hb : w.heap.size ≤ base) : Below w.heap.size w b :=
 ⟨k.os.trans h.os, k.tape.trans h.tape, k.output.trans h.output, Nat.le_trans h.size k.size, fun i hi => (k.block i (Nat.lt_of_lt_of_le hi h.size) (fun e => by have := (ho.lt _ e.symm).1; omega)).trans (h.block i hi)⟩
theorem LexU.len {u : List UInt8} {l : List (Int × List UInt8 × Val)} {e : Int} {o : Nat} (h : LexU u l e o) : l.length ≤ u.length := by
 induction h with
 | fin _ => simp
 | err _ _ _ => simp
 | @tok u v l e o h hv he hr ih =>
  have hp := tokL_pos v he
  have h1 := skip_len _ u (Nat.le_refl _)
  rw [h] at h1
  rw [List.length_drop] at ih
  simp; omega
def AllX (s : List UInt8) (A : Option Addr) (n : Nat) (er a b d : Int) (w : World) : Prop := ∃ l o, LexU s l er o ∧ (er = 0 → a = 0 ∧ b = 0 ∧ d = 0 ∧ ∃ l', l'.map core = l ∧ TRow w A n l') ∧ (er ≠ 0 → n = 0 ∧ o ≤ s.length ∧ pv a b d = plc s (s.length - o))
theorem AllX.next {s : List UInt8} {A : Option Addr} {n : Nat} {er a b d : Int} {w W : World} (h : AllX s A n er a b d w) (bl : Below w.heap.size w W) : AllX s A n er a b d W := by
 obtain ⟨l, o, h1, h2, h3⟩ := h
 refine ⟨l, o, h1, fun he => ?_, h3⟩
 obtain ⟨e1, e2, e3, l', e4, e5⟩ := h2 he
 exact ⟨e1, e2, e3, l', e4, e5.next bl⟩
end Go.Proofs.YtnbmpfdffoidaaaGreat.X
namespace Go.Proofs.YtnbmpfdffoidaaaGreat.Y
open O V S X
theorem quo_good : ∀ (n : Nat) (l : List UInt8), l.length ≤ n → ∀ (k : Nat) (q Q : Quo), quoS l k q = some Q → Q.bad = none → q.bad = none ∧ (q.s.all V.okC = true → Q.s.all V.okC = true) ∧ Q.s.length + k ≤ q.s.length + Q.n := by
 intro n
 induction n with
 | zero =>
  intro l hl k q Q h _
  cases l with
  | nil => rw [quoS_nil] at h; cases h
  | cons _ _ => simp at hl
 | succ n ih =>
  intro l hl k q Q h hb
  match l, hl with
  | [], _ => rw [quoS_nil] at h; cases h
  | x :: l, hl =>
   simp at hl
   rw [quoS_cons] at h
   split at h
   ·cases h; exact ⟨hb, fun h => h, Nat.le_refl _⟩
   ·split at h
    ·match l, hl with
     | [], _ => cases h
     | d :: r, hl =>
      obtain ⟨h1, h2, h3⟩ := ih r (by simp at hl; omega) (k + 2) _ _ h hb
      simp only at h1 h2 h3
      cases hq : q.bad with
      | some b => rw [hq] at h1; simp [orE] at h1
      | none =>
       rw [hq] at h1
       simp only [orE] at h1
       refine ⟨rfl, fun ha => h2 ?_, by simp at h3; omega⟩
       have hd : wrongC d = false := by
        cases hw : wrongC d
        ·rfl
        ·rw [hw] at h1; simp at h1
       rw [List.all_append, ha]
       unfold wrongC at hd
       simp at hd
       simp [V.okC]; omega
    ·obtain ⟨h1, h2, h3⟩ := ih l (by omega) (k + 1) _ _ h hb
     simp only at h1 h2 h3
     cases hq : q.bad with
     | some b => rw [hq] at h1; simp [orE] at h1
     | none =>
      rw [hq] at h1
      simp only [orE] at h1
      refine ⟨rfl, fun ha => h2 ?_, by simp at h3; omega⟩
      have hd : wrongC x = false := by
       cases hw : wrongC x
       ·rfl
       ·rw [hw] at h1; simp at h1
      rw [List.all_append, ha]
      unfold wrongC at hd
      simp at hd
      simp [V.okC]; omega
theorem numV_lt : ∀ (l : List UInt8) (a : Nat), l.all digitC = true → l.foldl (fun n c => 10 * n + (c.toNat - 48)) a < (a + 1) * 10 ^ l.length
 | [], a, _ => by simp
 | c :: l, a, h => by
  simp only [List.all_cons, Bool.and_eq_true] at h
  have := numV_lt l (10 * a + (c.toNat - 48)) h.2
  have hd := h.1
  unfold digitC at hd
  simp at hd
  rw [List.foldl_cons]
  refine Nat.lt_of_lt_of_le this ?_
  rw [List.length_cons, Nat.pow_succ, Nat.mul_comm (10 ^ l.length) 10, ← Nat.mul_assoc]
  exact Nat.mul_le_mul_right _ (by omega)
theorem run_all (p : UInt8 → Bool) : ∀ l : List UInt8, (l.take (runLen p l)).all p = true
 | [] => by simp
 | c :: l => by
  unfold runLen
  split
  ·rename_i h
   rw [List.take_succ_cons, List.all_cons, h, run_all p l]; rfl
  ·simp
theorem tok_z (v : List UInt8) (hv : v ≠ []) (he : (tokL v).e = 0) : TokZ ((tokL v).k, v.take (tokL v).n, (tokL v).v) ∧ cw 0 ((tokL v).k, v.take (tokL v).n, (tokL v).v) ≤ 2 * (tokL v).n := by
 cases v with
 | nil => exact absurd rfl hv
 | cons c r =>
  rw [tokL_cons] at he ⊢
  split at he
  ·split at he
   ·cases he
   ·rename_i h1 h2
    rw [if_pos h1, if_neg h2]
    refine ⟨⟨⟨fun h => by simp at h, fun h => by simp at h⟩, fun h => by simp at h⟩, ?_⟩
    rw [cw, if_neg (by simp)]
    simp only [List.length_take]; omega
  ·split at he
   ·split at he
    ·rename_i h1 h2 h3
     rw [if_neg h1, if_pos h2, if_pos h3]
     have ha := run_all digitC (c :: r)
     have hle := runLen_le digitC (c :: r)
     have h0 : 0 < runLen digitC (c :: r) := by unfold runLen; rw [if_pos h2]; omega
     have hl : ((c :: r).take (runLen digitC (c :: r))).length = runLen digitC (c :: r) := by rw [List.length_take]; omega
     generalize (c :: r).take (runLen digitC (c :: r)) = ds at *
     have hlt := numV_lt ds 0 ha
     have hd : (decL ((numV ds : Nat) : Int)).length ≤ ds.length := by
      rw [decL, if_neg (by omega)]
      have h9 : ((numV ds : Nat) : Int).natAbs = numV ds := by omega
      rw [h9]
      have := digN_len (ds.length - 1) (numV ds) (by rw [show ds.length - 1 + 1 = ds.length by omega]; unfold numV; omega)
      omega
     have hok : okNum ((numV ds : Nat) : Int) := by
      unfold numOk at h3
      simp only [Bool.and_eq_true, decide_eq_true_eq] at h3
      have := h3.1
      exact ⟨by omega, by omega⟩
     refine ⟨⟨⟨fun _ => ⟨_, hok, rfl⟩, fun h => by simp at h⟩, fun _ => hd⟩, ?_⟩
     rw [cw, if_neg (by simp)]
     simp only; omega
    ·cases he
   ·split at he
    ·rename_i h1 h2 h3
     rw [if_neg h1, if_neg h2, if_pos h3]
     cases hq : quoS ((c :: r).drop 1) 1 ⟨0, [], none⟩ with
     | none => unfold quoL at he; rw [hq] at he; cases he
     | some Q =>
      cases hb : Q.bad with
      | some k => rw [quoL_bad hq hb] at he; cases he
      | none =>
       rw [quoL_ok hq hb] at he ⊢
       split at he
       ·cases he
       ·rename_i h4
        rw [if_neg h4]
        obtain ⟨_, g2, g3⟩ := quo_good _ _ (Nat.le_refl _) 1 _ Q hq hb
        refine ⟨⟨⟨fun h => by simp at h, fun _ => ⟨Q.s, ?_, rfl⟩⟩, fun h => by simp at h⟩, ?_⟩
        ·unfold plainL
         rw [g2 rfl]
         simp; omega
        ·rw [cw, if_pos rfl]
         have := escL_len Q.s
         simp only [quoteL, List.length_cons, List.length_append, List.length_nil] at g3 ⊢
         omega
    ·split at he
     ·cases he
     ·rename_i h1 h2 h3 h4
      rw [if_neg h1, if_neg h2, if_neg h3, if_neg h4]
      refine ⟨⟨⟨fun h => by simp at h, fun h => by simp at h⟩, fun h => by simp at h⟩, ?_⟩
      rw [cw, if_neg (by simp)]
      simp only [List.length_take]; omega
theorem LexU.z {u : List UInt8} {l : List Tok} {e : Int} {o : Nat} (h : LexU u l e o) : AllZ l ∧ W 0 l ≤ 2 * u.length := by
 induction h with
 | fin _ => exact ⟨fun t ht => (by cases ht), Nat.zero_le _⟩
 | err _ _ _ => exact ⟨fun t ht => (by cases ht), Nat.zero_le _⟩
 | @tok u v l e o h hv he hr ih =>
  obtain ⟨z1, z2⟩ := tok_z v hv he
  have hp := tokL_pos v he
  have h1 := skip_len _ u (Nat.le_refl _)
  rw [h] at h1
  rw [List.length_drop] at ih
  refine ⟨fun t ht => ?_, ?_⟩
  ·rcases List.mem_cons.1 ht with e | e
   ·rw [e]; exact z1
   ·exact ih.1 t e
  ·rw [W_cons]; omega
theorem W_e (e : Nat) : ∀ l : List Tok, W e l = W 0 l + e * l.length
 | [] => by simp [W]
 | t :: l => by rw [W_cons, W_cons, W_e e l, List.length_cons, Nat.mul_add]; unfold cw; omega
theorem LexU.we {u : List UInt8} {l : List Tok} {e : Int} {o : Nat} (h : LexU u l e o) (k : Nat) : W k l ≤ 2 * u.length + k * u.length := by
 have := (Y.LexU.z h).2
 have h2 := h.len
 rw [W_e]
 have := Nat.mul_le_mul_left k h2
 omega
theorem LexU.txt {u : List UInt8} {l : List Tok} {e : Int} {o : Nat} (h : LexU u l e o) : ∀ t ∈ l, t.2.1.length ≤ u.length := by
 induction h with
 | fin _ => exact fun t ht => (by cases ht)
 | err _ _ _ => exact fun t ht => (by cases ht)
 | @tok u v l e o h hv he hr ih =>
  have h1 := skip_len _ u (Nat.le_refl _)
  rw [h] at h1
  rw [List.length_drop] at ih
  intro t ht
  rcases List.mem_cons.1 ht with e | e
  ·rw [e]; simp only [List.length_take]; omega
  ·have := ih t e; omega
end Go.Proofs.YtnbmpfdffoidaaaGreat.Y
namespace Go.Proofs.YtnbmpfdffoidaaaGreat.Y
open O V S X
def tgl (c : UInt8) (q : Bool) : Bool := if c.toNat = 34 then !q else q
def wrd : List UInt8 → Bool → List UInt8 → List (List UInt8)
 | [], _, cur => [cur]
 | [c], q, cur => if q = true ∧ c.toNat = 92 then [cur ++ [c]] else if c.toNat = 32 ∧ tgl c q = false then [cur, []] else [cur ++ [c]]
 | c :: d :: r, q, cur => if q = true ∧ c.toNat = 92 then wrd r q (cur ++ [c, d]) else if c.toNat = 32 ∧ tgl c q = false then cur :: wrd (d :: r) (tgl c q) [] else wrd (d :: r) (tgl c q) (cur ++ [c])
theorem wrd_esc {c : UInt8} (h : c.toNat = 92) (l cur : List UInt8) : wrd (c :: l) true cur = wrd (l.drop 1) true (cur ++ c :: l.take 1) := by
 cases l with
 | nil => simp [wrd, h]
 | cons d r => simp [wrd, h]
theorem wrd_cut {c : UInt8} (h : c.toNat = 32) {q : Bool} (hq : tgl c q = false) (l cur : List UInt8) : wrd (c :: l) q cur = cur :: wrd l (tgl c q) [] := by
 have h1 : ¬ (q = true ∧ c.toNat = 92) := by omega
 cases l with
 | nil => rw [wrd, wrd, if_neg h1, if_pos ⟨h, hq⟩]
 | cons d r => rw [wrd, if_neg h1, if_pos ⟨h, hq⟩]
theorem wrd_go {c : UInt8} {q : Bool} (h1 : ¬ (q = true ∧ c.toNat = 92)) (h2 : ¬ (c.toNat = 32 ∧ tgl c q = false)) (l cur : List UInt8) : wrd (c :: l) q cur = wrd l (tgl c q) (cur ++ [c]) := by
 cases l with
 | nil => rw [wrd, wrd, if_neg h1, if_neg h2]
 | cons d r => rw [wrd, if_neg h1, if_neg h2]
def Whole (t : List UInt8) : Prop := ∀ r cur, wrd (t ++ r) false cur = wrd r false (cur ++ t)
theorem whole_nil : Whole [] := fun r cur => by simp
theorem whole_cons {c : UInt8} {t : List UInt8} (h1 : c.toNat ≠ 34) (h2 : c.toNat ≠ 32) (h : Whole t) : Whole (c :: t) := fun r cur => by
 have e : tgl c false = false := by unfold tgl; rw [if_neg h1]
 rw [List.cons_append, wrd_go (by simp) (fun hh => h2 hh.1), e, h]
 simp
theorem whole_all : ∀ {t : List UInt8}, (∀ c ∈ t, c.toNat ≠ 34 ∧ c.toNat ≠ 32) → Whole t
 | [], _ => whole_nil
 | c :: t, h => whole_cons (h c (by simp)).1 (h c (by simp)).2 (whole_all fun x hx => h x (by simp [hx]))
theorem esc_len (c : UInt8) (s : List UInt8) : (escL (s ++ [c])).length = (escL s).length + (esc c).length := by
 simp [escL]
theorem quo_wrd : ∀ (n : Nat) (l : List UInt8), l.length ≤ n → ∀ (k : Nat) (q Q : Quo), quoS l k q = some Q → ∃ a c b, l = a ++ c :: b ∧ c.toNat = 34 ∧ Q.n = k + a.length ∧ (∀ m cur, wrd (a ++ c :: m) true cur = wrd m false (cur ++ a ++ [c])) ∧
  (Q.bad = none → (escL Q.s).length = (escL q.s).length + a.length)
 | _, [], _, k, q, Q, h => by cases h
 | n, [c], hn, k, q, Q, h => by
  unfold quoS at h
  split at h
  ·rename_i hc
   injection h with h
   subst h
   refine ⟨[], c, [], rfl, hc, by simp, fun m cur => ?_, fun _ => by simp⟩
   have e : tgl c true = false := by unfold tgl; rw [if_pos hc]; rfl
   rw [List.nil_append, wrd_go (by omega) (by omega), e]; simp
  ·cases h
 | 0, c :: d :: r, hn, k, q, Q, h => by simp at hn
 | n + 1, c :: d :: r, hn, k, q, Q, h => by
  simp only [List.length_cons] at hn
  unfold quoS at h
  split at h
  ·rename_i hc
   injection h with h
   subst h
   refine ⟨[], c, d :: r, rfl, hc, by simp, fun m cur => ?_, fun _ => by simp⟩
   have e : tgl c true = false := by unfold tgl; rw [if_pos hc]; rfl
   rw [List.nil_append, wrd_go (by omega) (by omega), e]; simp
  ·rename_i hc
   split at h
   ·rename_i h9
    obtain ⟨a, x, b, rfl, hx, hQ, hw, hl⟩ := quo_wrd n r (by omega) _ _ Q h
    refine ⟨c :: d :: a, x, b, rfl, hx, by simp; omega, fun m cur => ?_, fun hb => ?_⟩
    ·rw [List.cons_append, wrd_esc h9, List.cons_append]
     simp only [List.drop_succ_cons, List.drop_zero, List.take_succ_cons, List.take_zero]
     rw [hw]; simp
    ·have g := (quo_good _ _ (Nat.le_refl _) _ _ Q h hb).1
     have hq : (escC d = true) := by
      cases hqb : q.bad with
      | some k => simp [orE, hqb] at g
      | none =>
       simp only [orE, hqb] at g
       split at g
       ·cases g
       ·rename_i hh
        simp at hh
        exact hh.1
     rw [hl hb]
     simp only
     rw [esc_len]
     have : (esc d).length = 2 := by
      unfold escC at hq
      simp at hq
      rw [esc, if_pos hq]; rfl
     rw [this]
     simp; omega
   ·rename_i h9
    obtain ⟨a, x, b, e, hx, hQ, hw, hl⟩ := quo_wrd n (d :: r) (by simp; omega) _ _ Q h
    refine ⟨c :: a, x, b, by rw [List.cons_append, ← e], hx, by simp; omega, fun m cur => ?_, fun hb => ?_⟩
    ·have e2 : tgl c true = true := by unfold tgl; rw [if_neg hc]
     rw [List.cons_append, wrd_go (by omega) (by rw [e2]; simp), e2, hw]; simp
    ·rw [hl hb]
     simp only
     rw [esc_len]
     have : (esc c).length = 1 := by rw [esc, if_neg (by omega)]; rfl
     rw [this]
     simp; omega
theorem signL_1 (c : UInt8) : signL [c] = if one c.toNat then 1 else 0 := rfl
theorem signL_2 (c d : UInt8) (r : List UInt8) : signL (c :: d :: r) = if two c.toNat d.toNat then 2 else if one c.toNat then 1 else 0 := rfl
theorem signL_two {c : UInt8} {r : List UInt8} (hc : c.toNat ≠ 34) (h0 : signL (c :: r) ≠ 0) (h : signL (c :: r) = (c :: r).length) : ∀ x ∈ c :: r, x.toNat ≠ 34 ∧ x.toNat ≠ 32 := by
 cases r with
 | nil =>
  rw [signL_1] at h0
  intro x hx
  simp only [List.mem_singleton] at hx
  subst hx
  refine ⟨hc, fun e => ?_⟩
  rw [e] at h0
  exact h0 rfl
 | cons d r =>
  rw [signL_2] at h
  by_cases h1 : two c.toNat d.toNat = true
  ·rw [if_pos h1] at h
   have hr : r = [] := by
    cases r with
    | nil => rfl
    | cons _ _ => simp at h
   subst hr
   intro x hx
   unfold two at h1
   simp only [Bool.or_eq_true, Bool.and_eq_true, decide_eq_true_eq] at h1
   simp only [List.mem_cons, List.not_mem_nil, or_false] at hx
   rcases hx with rfl | rfl <;> omega
  ·rw [if_neg h1] at h
   simp only [List.length_cons] at h
   split at h <;> omega
theorem TokOk.whole {t : Tok} (h : TokOk t) : Whole t.2.1 ∧ t.2.1.length ≤ cw 0 t := by
 obtain ⟨k, s, v⟩ := t
 have hl := h.lex
 have hne := h.ne
 simp only at hl hne ⊢
 have hk : k ≠ 3 → s.length ≤ cw 0 (k, s, v) := fun hk => by unfold cw; rw [if_neg hk]; exact Nat.le_add_right _ _
 cases s with
 | nil => exact absurd rfl hne
 | cons c r =>
  rw [tokL_cons] at hl
  have run (p : UInt8 → Bool) (e : runLen p (c :: r) = (c :: r).length) : (c :: r).all p = true := by
   have := run_all p (c :: r)
   rw [e, List.take_of_length_le (Nat.le_refl _)] at this
   exact this
  split at hl
  ·split at hl
   ·injection hl with h1 _ _ _ _; cases h1
   ·injection hl with _ _ h3 h4 _
    refine ⟨whole_all fun x hx => ?_, hk (by omega)⟩
    have := List.all_eq_true.1 (run wordC h4) x hx
    unfold wordC smallC digitC at this
    simp at this
    omega
  ·split at hl
   ·split at hl
    ·injection hl with _ _ h3 h4 _
     refine ⟨whole_all fun x hx => ?_, hk (by omega)⟩
     have := List.all_eq_true.1 (run digitC h4) x hx
     unfold digitC at this
     simp at this
     omega
    ·injection hl with h1 _ _ _ _; cases h1
   ·split at hl
    ·rename_i hc
     cases hq : quoS ((c :: r).drop 1) 1 ⟨0, [], none⟩ with
     | none => unfold quoL at hl; rw [hq] at hl; injection hl with h1 _ _ _ _; cases h1
     | some Q =>
      cases hb : Q.bad with
      | some j => rw [quoL_bad hq hb] at hl; injection hl with h1 _ _ _ _; cases h1
      | none =>
       rw [quoL_ok hq hb] at hl
       split at hl
       ·injection hl with h1 _ _ _ _; cases h1
       ·injection hl with _ _ h3 h4 h5
        obtain ⟨a, x, b, e, hx, hQ, hw, hle⟩ := quo_wrd _ _ (Nat.le_refl _) _ _ Q hq
        rw [List.drop_succ_cons, List.drop_zero] at e
        subst e
        have hb0 : b = [] := by
         cases b with
         | nil => rfl
         | cons _ _ => simp at h4; omega
        subst hb0
        refine ⟨fun m cur => ?_, ?_⟩
        ·have e2 : tgl c false = true := by unfold tgl; rw [if_pos hc]; rfl
         rw [List.cons_append, wrd_go (by simp) (by omega), e2, List.append_assoc, List.cons_append, List.nil_append, hw]; simp
        ·subst h3 h5
         have := hle hb
         simp [escL] at this
         unfold cw
         rw [if_pos rfl]
         simp [quoteL, escL]
         omega
    ·rename_i hc
     split at hl
     ·injection hl with h1 _ _ _ _; cases h1
     ·rename_i h0
      injection hl with _ _ h3 h4 _
      exact ⟨whole_all (signL_two hc h0 h4), hk (by omega)⟩
def wordsOf (l : List (List UInt8)) : List (List UInt8) := if l = [] then [[]] else l
theorem wrd_join : ∀ l : List (List UInt8), (∀ t ∈ l, Whole t) → wrd (joinB l) false [] = wordsOf l
 | [], _ => rfl
 | [t], h => by
  have := h t (by simp) [] []
  rw [List.append_nil] at this
  show wrd t false [] = _
  rw [this]; simp [wrd, wordsOf]
 | t :: y :: r, h => by
  show wrd (t ++ 32 :: joinB (y :: r)) false [] = _
  rw [h t (by simp), wrd_cut (by decide) (by decide), show tgl 32 false = false by decide, wrd_join (y :: r) fun x hx => h x (by simp at hx ⊢; exact .inr hx)]
  simp [wordsOf]
def SepOk (u : List UInt8) : Prop := u.length ≤ 9 ∧ ∃ d r, u = d :: r ∧ blankC d = true ∧ ∀ v, X.skip (r ++ v) = X.skip v
theorem sep_line : SepOk [10] := ⟨by decide, 10, [], rfl, by decide, fun v => rfl⟩
theorem sep_two : SepOk [32, 32] := ⟨by decide, 32, [32], rfl, by decide, fun v => by rw [List.cons_append, List.nil_append, skip_blank _ (by decide)]⟩
theorem sep_note : SepOk [32, 35, 32, 110, 111, 116, 101, 10, 32] := by
 refine ⟨by decide, 32, [35, 32, 110, 111, 116, 101, 10, 32], rfl, by decide, fun v => ?_⟩
 rw [List.cons_append, skip_note _ (by decide)]
 show X.skip ((32 :: 110 :: 111 :: 116 :: 101 :: 10 :: 32 :: v).dropWhile noteC) = _
 rw [List.dropWhile_cons, if_pos (by decide), List.dropWhile_cons, if_pos (by decide), List.dropWhile_cons, if_pos (by decide), List.dropWhile_cons, if_pos (by decide), List.dropWhile_cons, if_pos (by decide), List.dropWhile_cons, if_neg (by decide), skip_blank _ (by decide), skip_blank _ (by decide)]
inductive Jn : List (List UInt8) → List UInt8 → Prop
 | nil : Jn [] []
 | snoc {l : List (List UInt8)} {s t u : List UInt8} (h : Jn l s) (hu : SepOk u) : Jn (l ++ [t]) (s ++ t ++ u)
def sumL (l : List (List UInt8)) : Nat := (l.map fun t => t.length + 9).sum
theorem Jn.len {l : List (List UInt8)} {s : List UInt8} (h : Jn l s) : s.length ≤ sumL l := by
 induction h with
 | nil => simp
 | snoc h hu ih =>
  have := hu.1
  simp [sumL] at ih ⊢
  omega
theorem Jn.spread' {l : List (List UInt8)} {s : List UInt8} (h : Jn l s) : ∀ ts : List Tok, txts ts = l → (∀ t ∈ ts, TokOk t) → ∀ rest v, Spread rest v → Spread (ts ++ rest) (s ++ v) := by
 induction h with
 | nil =>
  intro ts e _ rest v hv
  have : ts = [] := by simpa [txts] using e
  subst this
  exact hv
 | @snoc l s t u h hu ih =>
  intro ts e hok rest v hv
  have hne : ts ≠ [] := by rintro rfl; simp [txts] at e
  obtain ⟨ts', x, rfl⟩ : ∃ ts' x, ts = ts' ++ [x] := ⟨ts.dropLast, ts.getLast hne, (List.dropLast_concat_getLast hne).symm⟩
  simp only [txts, List.map_append, List.map_cons, List.map_nil] at e
  obtain ⟨e1, e2⟩ := List.append_inj' e rfl
  simp at e2
  subst e2
  obtain ⟨_, d, r, rfl, hd, hs⟩ := hu
  have h2 : Spread (x :: rest) (x.2.1 ++ d :: (r ++ v)) := .more x (hok x (by simp)) hd (hs v) hv
  have := ih ts' e1 (fun t ht => hok t (by simp [ht])) _ _ h2
  simpa using this
theorem spread_jn {ts : List Tok} (hok : ∀ t ∈ ts, TokOk t) {s : List UInt8} (h : Jn (wordsOf (txts ts)) s) : Spread ts s := by
 by_cases h0 : ts = []
 ·subst h0
  have e : wordsOf (txts []) = [] ++ [[]] := rfl
  rw [e] at h
  generalize hl : ([] : List (List UInt8)) ++ [[]] = l at h
  cases h with
  | nil => simp at hl
  | snoc h hu =>
   obtain ⟨e1, e2⟩ := List.append_inj' hl rfl
   simp at e2
   subst e1 e2
   obtain ⟨_, d, r, rfl, hd, hs⟩ := hu
   have h3 : ∀ x y, Jn x y → x = [] → y = [] := by
    intro x y hh hx
    cases hh with
    | nil => rfl
    | snoc _ _ => simp at hx
   rw [h3 _ _ h rfl]
   refine .fin ?_
   have := hs []
   rw [List.append_nil] at this
   show X.skip (d :: r) = []
   rw [skip_blank _ hd, this, skip_nil]
 ·have e : wordsOf (txts ts) = txts ts := by
   unfold wordsOf
   rw [if_neg (by simpa [txts] using h0)]
  rw [e] at h
  have := h.spread' ts rfl hok [] [] (.fin skip_nil)
  simpa using this
theorem sum_W {ts : List Tok} (hok : ∀ t ∈ ts, TokOk t) : sumL (txts ts) ≤ W 9 ts := by
 induction ts with
 | nil => simp [sumL, txts]
 | cons t l ih =>
  have h1 := (hok t (by simp)).whole.2
  have := ih fun x hx => hok x (by simp [hx])
  simp only [sumL, txts, List.map_cons, List.sum_cons] at this ⊢
  rw [W_cons]
  unfold cw at h1 ⊢
  omega
theorem sum_words (l : List (List UInt8)) : sumL (wordsOf l) ≤ sumL l + 9 := by
 unfold wordsOf
 split
 ·simp [sumL]
 ·omega
end Go.Proofs.YtnbmpfdffoidaaaGreat.Y
