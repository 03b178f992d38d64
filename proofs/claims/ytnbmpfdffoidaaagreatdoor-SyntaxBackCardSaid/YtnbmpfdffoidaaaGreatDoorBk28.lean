/- Texts of the proof, joined: SynSize, SynTok, SynPar2. -/
import Derived.Test.YtnbmpfdffoidaaaGreatDoorBk03
import Derived.Test.YtnbmpfdffoidaaaGreatDoorBk07
import Derived.Test.YtnbmpfdffoidaaaGreatDoorBk27
set_option linter.unusedVariables false
set_option linter.unusedSimpArgs false
set_option maxHeartbeats 8000000
set_option maxRecDepth 100000
namespace Go.Proofs.YtnbmpfdffoidaaaGreatDoor.Y
open O V S
def TokZ (t : Tok) : Prop := TokW t ∧ (t.1 = 2 → (decL t.2.2.n).length ≤ t.2.1.length)
def AllZ (l : List Tok) : Prop := ∀ t ∈ l, TokZ t
theorem AllZ.tail {l : List Tok} (h : AllZ l) : AllZ l.tail := fun t ht => h t (List.mem_of_mem_tail ht)
theorem AllZ.rest {t : Tok} {l : List Tok} (h : AllZ (t :: l)) : AllZ l := fun x hx => h x (by simp [hx])
theorem AllZ.w {l : List Tok} (h : AllZ l) : AllW l := fun t ht => (h t ht).1
def cw (e : Nat) (t : Tok) : Nat := (if t.1 = 3 then (quoteL t.2.2.s).length else t.2.1.length) + e
def W (e : Nat) : List Tok → Nat
 | [] => 0
 | t :: l => cw e t + W e l
variable {α β : Type} {e : Nat}
theorem W_nil : W e [] = 0 := rfl
theorem W_cons (t : Tok) (l : List Tok) : W e (t :: l) = cw e t + W e l := rfl
theorem W_app : ∀ l m : List Tok, W e (l ++ m) = W e l + W e m
 | [], m => by simp [W]
 | t :: l, m => by rw [List.cons_append, W_cons, W_cons, W_app l m]; omega
theorem cw_w (s : List UInt8) : cw e (tw s) = s.length + e := rfl
theorem cw_g (s : List UInt8) : cw e (tg s) = s.length + e := rfl
theorem cw_n (n : Int) : cw e (tn n) = (decL n).length + e := rfl
def Wt (Q : α → List Tok → Prop) : Res α → Prop
 | .ok a r => AllZ r ∧ Q a r
 | _ => True
theorem Wt.bind {Q : α → List Tok → Prop} {R : β → List Tok → Prop} {p : Res α} {f : α → List Tok → Res β} (h : Wt Q p) (k : ∀ a r, AllZ r → Q a r → Wt R (f a r)) : Wt R (p.bind f) := by
 cases p with
 | oof => trivial
 | bad => trivial
 | ok a r => exact k a r h.1 h.2
theorem Wt.mono {Q R : α → List Tok → Prop} {p : Res α} (h : Wt Q p) (k : ∀ a r, Q a r → R a r) : Wt R p := by
 cases p with
 | oof => trivial
 | bad => trivial
 | ok a r => exact ⟨h.1, k _ _ h.2⟩
theorem isT_cw {l : List Tok} {s : List UInt8} (h : isT l s = true) : W e l = s.length + e + W e l.tail := by
 cases l with
 | nil => cases h
 | cons t r =>
  unfold isT at h
  simp only [Bool.and_eq_true, decide_eq_true_eq] at h
  show cw e t + W e r = _
  rw [cw, if_neg h.2, h.1]; rfl
theorem want_wt {l : List Tok} (h : AllZ l) (s : List UInt8) : Wt (fun _ r => s.length + e + W e r ≤ W e l) (want l s) := by
 unfold want
 split
 ·rename_i hi
  exact ⟨h.tail, by rw [isT_cw hi]; exact Nat.le_refl _⟩
 ·trivial
theorem name_wt {l : List Tok} (h : AllZ l) : Wt (fun n r => n.length + e + W e r ≤ W e l) (pName l) := by
 cases l with
 | nil => trivial
 | cons t r =>
  show Wt _ (if t.1 = 1 ∧ isNameL t.2.1 = true then Res.ok t.2.1 r else .bad)
  split
  ·rename_i hn
   refine ⟨h.rest, ?_⟩
   rw [W_cons, cw, if_neg (by omega)]
   exact Nat.le_refl _
  ·trivial
theorem num_wt {l : List Tok} (h : AllZ l) : Wt (fun n r => (decL n).length + e + W e r ≤ W e l) (pNum l) := by
 cases l with
 | nil => trivial
 | cons t r =>
  show Wt _ (if t.1 = 2 then Res.ok t.2.2.n r else .bad)
  split
  ·rename_i hn
   have := (h t (by simp)).2 hn
   refine ⟨h.rest, ?_⟩
   rw [W_cons, cw, if_neg (by omega)]
   omega
  ·trivial
theorem room_wt {l : List Tok} (h : AllZ l) (n most : Nat) : Wt (fun _ r => r = l) (room n most l) := by
 unfold room
 split
 ·trivial
 ·exact ⟨h, rfl⟩
theorem around_wt {l : List Tok} {a b : List UInt8} {d : Nat} {k : Nat → List Tok → Res α} {f : α → Nat} (h : AllZ l) (hk : ∀ r, AllZ r → Wt (fun x r2 => f x + W e r2 ≤ W e r) (k (d + 1) r)) : Wt (fun x r => a.length + e + f x + (b.length + e) + W e r ≤ W e l) (around a b d l k) := by
 unfold around
 split
 ·rename_i hi
  have := isT_cw (e := e) hi
  split
  ·trivial
  ·refine (hk _ h.tail).bind fun x r hw hq => ?_
   refine (want_wt (e := e) hw b).bind fun _ r2 hw2 hq2 => ?_
   exact ⟨hw2, by simp only; omega⟩
 ·trivial
theorem W_br (x : Ex) (least : Nat) (t : List Tok) : W e t ≤ W e (br x least t) ∧ W e (br x least t) ≤ 1 + e + W e t + (1 + e) := by
 unfold br
 split
 ·rw [W_cons, W_app, W_cons, W_nil, cw_g, cw_g]
  simp only [List.length_cons, List.length_nil]
  omega
 ·omega
theorem W_br_mono (x : Ex) {a b : Nat} (h : a ≤ b) (t : List Tok) : W e (br x a t) ≤ W e (br x b t) := by
 by_cases hb : lvlX x < b
 ·have := (W_br (e := e) x a t).2
  rw [show br x b t = tg [40] :: (t ++ [tg [41]]) by unfold br; rw [if_pos hb], W_cons, W_app, W_cons, W_nil, cw_g, cw_g]
  simp only [List.length_cons, List.length_nil]
  omega
 ·rw [show br x b t = t by unfold br; rw [if_neg hb], show br x a t = t by unfold br; rw [if_neg (by omega)]]
  exact Nat.le_refl _
theorem br_no {x : Ex} {a : Nat} (h : a ≤ lvlX x) (t : List Tok) : br x a t = t := by unfold br; rw [if_neg (by omega)]
theorem W_0 (x : Ex) (least : Nat) : W e (toks0 x) ≤ W e (toksX x least) := (W_br x least _).1
theorem binS_inv (s : List UInt8) {op : Nat} (h : (binS s).1 = op) (hop : 1 ≤ op ∧ op ≤ 12) : s = signS op := by
 by_cases h1 : s = [124, 124]
 ·subst h1; obtain rfl : 1 = op := h; rfl
 by_cases h2 : s = [38, 38]
 ·subst h2; obtain rfl : 2 = op := h; rfl
 by_cases h3 : s = [61, 61]
 ·subst h3; obtain rfl : 3 = op := h; rfl
 by_cases h4 : s = [33, 61]
 ·subst h4; obtain rfl : 4 = op := h; rfl
 by_cases h5 : s = [60]
 ·subst h5; obtain rfl : 5 = op := h; rfl
 by_cases h6 : s = [60, 61]
 ·subst h6; obtain rfl : 6 = op := h; rfl
 by_cases h7 : s = [43]
 ·subst h7; obtain rfl : 7 = op := h; rfl
 by_cases h8 : s = [45]
 ·subst h8; obtain rfl : 8 = op := h; rfl
 by_cases h9 : s = [43, 43]
 ·subst h9; obtain rfl : 9 = op := h; rfl
 by_cases h10 : s = [42]
 ·subst h10; obtain rfl : 10 = op := h; rfl
 by_cases h11 : s = [47]
 ·subst h11; obtain rfl : 11 = op := h; rfl
 by_cases h12 : s = [37]
 ·subst h12; obtain rfl : 12 = op := h; rfl
 unfold binS at h
 rw [if_neg h1, if_neg h2, if_neg h3, if_neg h4, if_neg h5, if_neg h6, if_neg h7, if_neg h8, if_neg h9, if_neg h10, if_neg h11, if_neg h12] at h
 simp only at h
 omega
theorem opT_cw {l : List Tok} {op : Nat} (h : opT l = (op, lvlS op)) (hop : 1 ≤ op ∧ op ≤ 12) : W e l = (signS op).length + e + W e l.tail := by
 cases l with
 | nil => unfold opT at h; injection h with h1 h2; omega
 | cons t r =>
  show cw e t + W e r = _
  unfold opT at h
  simp only at h
  split at h
  ·rename_i h4
   have hs : t.2.1 = signS op := binS_inv _ (by rw [h]) hop
   rw [cw, if_neg (by omega), hs]; rfl
  ·injection h with h1 h2; omega
theorem lit_wt {l : List Tok} (h : AllZ l) {v : Val} (hv : pLit l = some v) : cw e (tv v) + W e l.tail ≤ W e l := by
 cases l with
 | nil => cases hv
 | cons t r =>
  show cw e (tv v) + W e r ≤ cw e t + W e r
  unfold pLit at hv
  simp only at hv
  have hz := h t (by simp)
  have : cw e (tv v) ≤ cw e t := by
   split at hv
   ·rename_i h1
    cases hv
    rw [tv, if_neg (by simp), if_pos rfl, if_pos rfl, cw_w, cw, if_neg (by omega), h1.2]
    exact Nat.le_refl _
   ·split at hv
    ·rename_i h1
     cases hv
     rw [tv, if_neg (by simp), if_pos rfl, if_neg (by simp), cw_w, cw, if_neg (by omega), h1.2]
     exact Nat.le_refl _
    ·split at hv
     ·rename_i h1
      injection hv with hv
      subst hv
      rcases h1 with h2 | h3
      ·obtain ⟨n, hn, en⟩ := hz.1.1 h2
       have := hz.2 h2
       rw [en] at this ⊢
       rw [tv, if_pos rfl, cw_n, cw, if_neg (by omega)]
       omega
      ·obtain ⟨s, hs, es⟩ := hz.1.2 h3
       have : cw e (tv t.2.2) = (quoteL s).length + e := by rw [es, tv, if_neg (by simp), if_neg (by simp), cw, if_pos rfl]
       rw [this, cw, if_pos h3, es]
       exact Nat.le_refl _
     ·cases hv
  omega
def EW (e lvl n : Nat) (x : Ex) (r : List Tok) : Prop := W e (toksX x (lvl + 1)) + W e r ≤ n ∧ (opT r).2 ≤ lvl
theorem expr_wt (e : Nat) : ∀ f, (∀ lvl d l, lvl ≤ 5 → AllZ l → Wt (EW e lvl (W e l)) (pExpr f lvl d l)) ∧
  (∀ lvl d x l n, lvl ≤ 5 → AllZ l → W e (toksX x (lvl + 1)) + W e l ≤ n → W e (toksX x (opT l).2) + W e l ≤ n → Wt (EW e lvl n) (pLoop f lvl d x l)) ∧
  (∀ d l, AllZ l → Wt (fun x r => W e (toksX x 6) + W e r ≤ W e l) (pUnary f d l)) ∧
  (∀ d l, AllZ l → Wt (fun x r => W e (toksX x 7) + W e r ≤ W e l) (pOperand f d l))
 | 0 => ⟨fun _ _ _ _ _ => by rw [pExpr]; trivial, fun _ _ _ _ _ _ _ _ _ => by rw [pLoop]; trivial, fun _ _ _ => by rw [pUnary]; trivial, fun _ _ _ => by rw [pOperand]; trivial⟩
 | f + 1 => by
  obtain ⟨he, hl, hu, ho⟩ := expr_wt e f
  have he0 : ∀ d l, AllZ l → Wt (fun x r => W e (toks0 x) + W e r ≤ W e l) (pExpr f 0 d l) := fun d l h => (he 0 d l (by omega) h).mono fun x r hq => by
   have := W_0 (e := e) x (0 + 1)
   have := hq.1
   omega
  have hop5 : ∀ r, (opT r).2 ≤ 5 := fun r => by
   rcases opT_cases r with e | ⟨op, ho, e, _⟩
   ·omega
   ·rw [e]
    have := lvlS_bound ho
    simp only; omega
  refine ⟨fun lvl d l h1 hw => ?_, fun lvl d x l n h1 hw hx hx2 => ?_, fun d l hw => ?_, fun d l hw => ?_⟩
  ·rw [pExpr]
   refine (hu d l hw).bind fun x r hwr hq => ?_
   refine hl lvl d x r _ h1 hwr ?_ ?_
   ·have := W_br_mono (e := e) x (show lvl + 1 ≤ 6 by omega) (toks0 x)
    unfold toksX at hq ⊢
    omega
   ·have := W_br_mono (e := e) x (show (opT r).2 ≤ 6 by have := hop5 r; omega) (toks0 x)
    unfold toksX at hq ⊢
    omega
  ·rw [pLoop]
   split
   ·exact ⟨hw, hx, by assumption⟩
   ·rename_i hlt
    rcases opT_cases l with e0 | ⟨op, hop, e0, hl0⟩
    ·omega
    ·have hb := lvlS_bound hop
     have hcw := opT_cw (e := e) e0 hop
     rw [e0] at hlt hx2 ⊢
     simp only at hlt hx2 ⊢
     refine (he (lvlS op) d l.tail hb.2 hw.tail).bind fun y r hwr hq => ?_
     have hq1 := hq.1
     have hlv : lvlX (.bin op x y) = lvlS op := rfl
     have h0 : W e (toks0 (.bin op x y)) = W e (toksX x (lvlS op)) + ((signS op).length + e) + W e (toksX y (lvlS op + 1)) := by
      show W e (br x (lvlS op) (toks0 x) ++ tg (signS op) :: br y (lvlS op + 1) (toks0 y)) = _
      rw [W_app, W_cons, cw_g]; unfold toksX; omega
     refine hl lvl d (.bin op x y) r n h1 hwr ?_ ?_
     ·unfold toksX at h0 hq1 hx2 ⊢
      rw [br_no (by rw [hlv]; omega), h0]
      omega
     ·have := hq.2
      unfold toksX at h0 hq1 hx2 ⊢
      rw [br_no (by rw [hlv]; omega), h0]
      omega
  ·rw [pUnary]
   have hun : ∀ op s, s = (if op = 13 then [33] else [45]) → isT l s = true → Wt (fun x r => W e (toksX x 6) + W e r ≤ W e l) (if d = 16 then .bad else (pUnary f (d + 1) l.tail).bind fun x r => .ok (.un op x) r) := by
    intro op s hs hi
    have hc := isT_cw (e := e) hi
    split
    ·trivial
    ·refine (hu (d + 1) l.tail hw.tail).bind fun x r hwr hq => ⟨hwr, ?_⟩
     have h0 : W e (toksX (.un op x) 6) = s.length + e + W e (toksX x 6) := by
      show W e (br _ 6 (tg (if op = 13 then [33] else [45]) :: br x 6 (toks0 x))) = _
      rw [br_no (show 6 ≤ lvlX (.un op x) from Nat.le_refl _), W_cons, cw_g, ← hs]; rfl
     dsimp only
     rw [h0]; omega
   split
   ·exact hun 13 _ rfl (by assumption)
   ·split
    ·exact hun 14 _ rfl (by assumption)
    ·exact (ho d l hw).mono fun x r hq => by
      have := W_br_mono (e := e) x (show 6 ≤ 7 by omega) (toks0 x)
      unfold toksX at hq ⊢
      omega
  ·rw [pOperand]
   have leaf : ∀ x : Ex, lvlX x = 7 → W e (toksX x 7) = W e (toks0 x) := fun x h => by unfold toksX; rw [br_no (by omega)]
   cases hv : pLit l with
   | some v =>
    simp only
    refine ⟨hw.tail, ?_⟩
    dsimp only
    rw [leaf (.val v) rfl]
    have := lit_wt (e := e) hw hv
    show W e [tv v] + _ ≤ _
    rw [W_cons, W_nil]
    omega
   | none =>
    simp only
    split
    ·refine (around_wt (e := e) (f := fun x => W e (toks0 x)) hw fun r hr => he0 _ r hr).mono fun x r hq => ?_
     have := (W_br (e := e) x 7 (toks0 x)).2
     simp only [List.length_cons, List.length_nil] at hq
     unfold toksX
     omega
    ·split
     ·rename_i hi
      have hc := isT_cw (e := e) hi
      refine (around_wt (e := e) (f := fun x => W e (toksX x 7) - (w_has.length + e + (1 + e) + (1 + e))) hw.tail fun r hr => ?_).mono fun x r hq => ?_
      ·refine (name_wt (e := e) hr).bind fun n r1 hw1 hn => ?_
       refine (want_wt (e := e) hw1 _).bind fun _ r2 hw2 h2 => ?_
       refine (he0 _ r2 hw2).bind fun a r3 hw3 ha => ⟨hw3, ?_⟩
       simp only
       rw [leaf (.has n a) rfl]
       have h0 : W e (toks0 (.has n a)) = w_has.length + e + (1 + e) + (n.length + e) + (1 + e) + W e (toks0 a) + (1 + e) := by
        rw [toks0]
        simp only [W_cons, W_app, W_nil, cw_w, cw_g, List.length_cons, List.length_nil]; omega
       rw [h0]
       simp only [List.length_cons, List.length_nil] at h2
       omega
      ·simp only [List.length_cons, List.length_nil] at hq
       omega
     ·split
      ·rename_i hi
       have hc := isT_cw (e := e) hi
       refine (around_wt (e := e) (f := fun x => W e (toksX x 7) - (w_sum.length + e + (1 + e) + (1 + e))) hw.tail fun r hr => ?_).mono fun x r hq => ?_
       ·refine (name_wt (e := e) hr).bind fun n r1 hw1 hn => ?_
        refine (want_wt (e := e) hw1 _).bind fun _ r2 hw2 h2 => ?_
        refine (name_wt (e := e) hw2).bind fun c r3 hw3 h3 => ?_
        refine (want_wt (e := e) hw3 _).bind fun _ r4 hw4 h4 => ?_
        refine (he0 _ r4 hw4).bind fun a r5 hw5 ha => ?_
        refine (want_wt (e := e) hw5 _).bind fun _ r6 hw6 h6 => ?_
        refine (he0 _ r6 hw6).bind fun b r7 hw7 hb => ⟨hw7, ?_⟩
        simp only
        rw [leaf (.sum n c a b) rfl]
        have h0 : W e (toks0 (.sum n c a b)) = w_sum.length + e + (1 + e) + (n.length + e) + (1 + e) + (c.length + e) + (1 + e) + W e (toks0 a) + (1 + e) + W e (toks0 b) + (1 + e) := by
         rw [toks0]
         simp only [W_cons, W_app, W_nil, cw_w, cw_g, List.length_cons, List.length_nil]; omega
        rw [h0]
        simp only [List.length_cons, List.length_nil] at h2 h4 h6
        omega
       ·simp only [List.length_cons, List.length_nil] at hq
        omega
      ·split
       ·rename_i hi
        have hc := isT_cw (e := e) hi
        refine (around_wt (e := e) (f := fun x => W e (toksX x 7) - (w_count.length + e + (1 + e) + (1 + e))) hw.tail fun r hr => ?_).mono fun x r hq => ?_
        ·refine (name_wt (e := e) hr).bind fun n r1 hw1 hn => ?_
         refine (want_wt (e := e) hw1 _).bind fun _ r4 hw4 h4 => ?_
         refine (he0 _ r4 hw4).bind fun a r5 hw5 ha => ?_
         refine (want_wt (e := e) hw5 _).bind fun _ r6 hw6 h6 => ?_
         refine (he0 _ r6 hw6).bind fun b r7 hw7 hb => ⟨hw7, ?_⟩
         simp only
         rw [leaf (.cnt n a b) rfl]
         have h0 : W e (toks0 (.cnt n a b)) = w_count.length + e + (1 + e) + (n.length + e) + (1 + e) + W e (toks0 a) + (1 + e) + W e (toks0 b) + (1 + e) := by
          rw [toks0]
          simp only [W_cons, W_app, W_nil, cw_w, cw_g, List.length_cons, List.length_nil]; omega
         rw [h0]
         simp only [List.length_cons, List.length_nil] at h4 h6
         omega
        ·simp only [List.length_cons, List.length_nil] at hq
         omega
       ·refine (name_wt (e := e) hw).bind fun n r hwr hn => ?_
        split
        ·refine (around_wt (e := e) (f := fun x => W e (toks0 x)) hwr fun r1 hr1 => he0 _ r1 hr1).bind fun k r2 hw2 hk => ?_
         refine (want_wt (e := e) hw2 _).bind fun _ r3 hw3 h3 => ?_
         refine (name_wt (e := e) hw3).bind fun c r4 hw4 hc => ⟨hw4, ?_⟩
         dsimp only
         rw [leaf (.cell n c k) rfl]
         have h0 : W e (toks0 (.cell n c k)) = n.length + e + (1 + e) + W e (toks0 k) + (1 + e) + (1 + e) + (c.length + e) := by
          rw [toks0]
          simp only [W_cons, W_app, W_nil, cw_w, cw_g, List.length_cons, List.length_nil]; omega
         rw [h0]
         simp only [List.length_cons, List.length_nil] at hk h3
         omega
        ·refine ⟨hwr, ?_⟩
         dsimp only
         rw [leaf (.var n) rfl]
         show W e [tw n] + _ ≤ _
         rw [W_cons, W_nil, cw_w]
         omega
theorem whole_wt {f d : Nat} {l : List Tok} (hw : AllZ l) : Wt (fun x r => W e (toks0 x) + W e r ≤ W e l) (pExpr f 0 d l) := ((expr_wt e f).1 0 d l (by omega) hw).mono fun x r hq => by
 have := W_0 (e := e) x (0 + 1)
 have := hq.1
 omega
theorem line_wt {f d : Nat} {l : List Tok} (hw : AllZ l) : Wt (fun x r => W e (toks0 x) + (1 + e) + W e r ≤ W e l) (pLine f d l) := by
 refine (whole_wt (e := e) hw).bind fun x r hwr hx => ?_
 refine (want_wt (e := e) hwr _).bind fun _ r2 hw2 h2 => ⟨hw2, ?_⟩
 simp only [List.length_cons, List.length_nil] at h2
 omega
theorem key_wt {f d : Nat} {l : List Tok} (hw : AllZ l) : Wt (fun x r => (1 + e) + W e (toks0 x) + (1 + e) + W e r ≤ W e l) (pKey f d l) := around_wt (e := e) hw fun r hr => whole_wt hr
theorem W_snoc : ∀ (a : Sts) (s : St), W e (toksB (a.snoc s)) = W e (toksB a) + W e (toksS s)
 | .nil, s => by rw [Sts.snoc, toksB, toksB, W_app, toksB, W_nil]; omega
 | .cons t r, s => by rw [Sts.snoc, toksB, toksB, W_app, W_app, W_snoc r s]; omega
theorem W_els (b : Sts) (t : List Tok) : W e (elsT b t) ≤ 4 + e + (1 + e) + W e t + (1 + e) := by
 cases b with
 | nil => rw [elsT, W_nil]; omega
 | cons s r => rw [show elsT (.cons s r) t = tw w_else :: tg [123] :: (t ++ [tg [125]]) from rfl, W_cons, W_cons, W_app, W_cons, W_nil, cw_w, cw_g, cw_g]; simp only [w_else, List.length_cons, List.length_nil]; omega
theorem stmt_wt (e : Nat) : ∀ f, (∀ d l, AllZ l → Wt (fun s r => W e (toksS s) + W e r ≤ W e l) (pStmt f d l)) ∧
  (∀ d l, AllZ l → Wt (fun b r => (1 + e) + W e (toksB b) + (1 + e) + W e r ≤ W e l) (pBlock f d l)) ∧
  (∀ d a l, AllZ l → Wt (fun b r => W e (toksB b) + W e r ≤ W e (toksB a) + W e l) (pStmts f d a l))
 | 0 => ⟨fun _ _ _ => by rw [pStmt]; trivial, fun _ _ _ => by rw [pBlock]; trivial, fun _ _ _ _ => by rw [pStmts]; trivial⟩
 | f + 1 => by
  obtain ⟨hs, hb, ht⟩ := stmt_wt e f
  refine ⟨fun d l hw => ?_, fun d l hw => ?_, fun d a l hw => ?_⟩
  ·rw [pStmt]
   split
   ·rename_i hi
    have hc := isT_cw (e := e) hi
    refine (name_wt (e := e) hw.tail).bind fun n r1 hw1 h1 => ?_
    refine (want_wt (e := e) hw1 _).bind fun _ r2 hw2 h2 => ?_
    refine (line_wt (e := e) hw2).bind fun x r3 hw3 h3 => ⟨hw3, ?_⟩
    dsimp only
    rw [toksS]
    simp only [W_cons, W_app, W_nil, cw_w, cw_g, List.length_cons, List.length_nil] at h2 ⊢
    omega
   ·split
    ·rename_i hi
     have hc := isT_cw (e := e) hi
     refine (name_wt (e := e) hw.tail).bind fun n r1 hw1 h1 => ?_
     refine (key_wt (e := e) hw1).bind fun x r2 hw2 h2 => ?_
     refine (want_wt (e := e) hw2 _).bind fun _ r3 hw3 h3 => ⟨hw3, ?_⟩
     dsimp only
     rw [toksS]
     simp only [W_cons, W_app, W_nil, cw_w, cw_g, List.length_cons, List.length_nil] at h3 ⊢
     omega
    ·split
     ·rename_i hi
      have hc := isT_cw (e := e) hi
      refine (whole_wt (e := e) hw.tail).bind fun x r1 hw1 h1 => ?_
      refine (hb d r1 hw1).bind fun b r2 hw2 h2 => ?_
      split
      ·rename_i hi2
       have hc2 := isT_cw (e := e) hi2
       refine (hb d r2.tail hw2.tail).bind fun els r3 hw3 h3 => ⟨hw3, ?_⟩
       dsimp only
       rw [toksS]
       have := W_els (e := e) els (toksB els)
       simp only [W_cons, W_app, W_nil, cw_w, cw_g, w_if, w_else, List.length_cons, List.length_nil] at hc hc2 ⊢
       omega
      ·refine ⟨hw2, ?_⟩
       dsimp only
       rw [toksS, toksB, elsT]
       simp only [W_cons, W_app, W_nil, cw_w, cw_g, w_if, List.length_cons, List.length_nil] at hc ⊢
       omega
     ·split
      ·rename_i hi
       have hc := isT_cw (e := e) hi
       refine (num_wt (e := e) hw.tail).bind fun k r1 hw1 h1 => ?_
       refine (name_wt (e := e) hw1).bind fun n r2 hw2 h2 => ?_
       refine (hb d r2 hw2).bind fun b r3 hw3 h3 => ⟨hw3, ?_⟩
       dsimp only
       rw [toksS]
       simp only [W_cons, W_app, W_nil, cw_w, cw_g, cw_n, List.length_cons, List.length_nil] at hc ⊢
       omega
      ·split
       ·rename_i hi
        have hc := isT_cw (e := e) hi
        refine (name_wt (e := e) hw.tail).bind fun n r1 hw1 h1 => ?_
        refine (want_wt (e := e) hw1 _).bind fun _ r2 hw2 h2 => ?_
        refine (name_wt (e := e) hw2).bind fun t r3 hw3 h3 => ?_
        refine (want_wt (e := e) hw3 _).bind fun _ r4 hw4 h4 => ?_
        refine (whole_wt (e := e) hw4).bind fun lo r5 hw5 h5 => ?_
        refine (want_wt (e := e) hw5 _).bind fun _ r6 hw6 h6 => ?_
        refine (whole_wt (e := e) hw6).bind fun hi r7 hw7 h7 => ?_
        refine (want_wt (e := e) hw7 _).bind fun _ r8 hw8 h8 => ?_
        refine (num_wt (e := e) hw8).bind fun k r9 hw9 h9 => ?_
        refine (hb d r9 hw9).bind fun b r10 hw10 h10 => ⟨hw10, ?_⟩
        dsimp only
        rw [toksS]
        simp only [W_cons, W_app, W_nil, cw_w, cw_g, cw_n, List.length_cons, List.length_nil] at hc ⊢
        omega
       ·split
        ·rename_i hi
         have hc := isT_cw (e := e) hi
         refine (want_wt (e := e) hw.tail _).bind fun _ r1 hw1 h1 => ⟨hw1, ?_⟩
         dsimp only
         rw [toksS]
         simp only [W_cons, W_app, W_nil, cw_w, cw_g, List.length_cons, List.length_nil] at hc h1 ⊢
         omega
        ·split
         ·rename_i hi
          have hc := isT_cw (e := e) hi
          refine (line_wt (e := e) hw.tail).bind fun x r1 hw1 h1 => ⟨hw1, ?_⟩
          dsimp only
          rw [toksS]
          simp only [W_cons, W_app, W_nil, cw_w, cw_g, List.length_cons, List.length_nil] at hc ⊢
          omega
         ·refine (name_wt (e := e) hw).bind fun n r1 hw1 h1 => ?_
          split
          ·refine (key_wt (e := e) hw1).bind fun k r2 hw2 h2 => ?_
           refine (want_wt (e := e) hw2 _).bind fun _ r3 hw3 h3 => ?_
           refine (name_wt (e := e) hw3).bind fun c r4 hw4 h4 => ?_
           refine (want_wt (e := e) hw4 _).bind fun _ r5 hw5 h5 => ?_
           refine (line_wt (e := e) hw5).bind fun x r6 hw6 h6 => ⟨hw6, ?_⟩
           dsimp only
           rw [toksS]
           simp only [W_cons, W_app, W_nil, cw_w, cw_g, List.length_cons, List.length_nil] at h3 h5 ⊢
           omega
          ·refine (want_wt (e := e) hw1 _).bind fun _ r2 hw2 h2 => ?_
           refine (line_wt (e := e) hw2).bind fun x r3 hw3 h3 => ⟨hw3, ?_⟩
           dsimp only
           rw [toksS]
           simp only [W_cons, W_app, W_nil, cw_w, cw_g, List.length_cons, List.length_nil] at h2 ⊢
           omega
  ·rw [pBlock]
   refine (around_wt (e := e) (f := fun b => W e (toksB b)) hw fun r hr => (ht _ .nil r hr).mono fun b r2 hq => ?_).mono fun b r hq => hq
   rw [toksB, W_nil] at hq
   omega
  ·rw [pStmts]
   split
   ·exact ⟨hw, Nat.le_refl _⟩
   ·refine (room_wt hw _ _).bind fun _ r hwr hq => ?_
    subst hq
    refine (hs d r hwr).bind fun s r2 hw2 h2 => ?_
    refine (ht d (a.snoc s) r2 hw2).mono fun b r3 h3 => ?_
    rw [W_snoc] at h3
    omega
theorem typ_wt {l : List Tok} (h : AllZ l) : Wt (fun (t : Int × Int) r => W e (toksT t.1 t.2) + W e r ≤ W e l) (pTyp l) := by
 unfold pTyp
 split
 ·rename_i hi
  have hc := isT_cw (e := e) hi
  refine ⟨h.tail, ?_⟩
  show W e [tw w_int] + _ ≤ _
  rw [W_cons, W_nil, cw_w]; omega
 ·split
  ·rename_i hi
   have hc := isT_cw (e := e) hi
   refine ⟨h.tail, ?_⟩
   show W e [tw w_bool] + _ ≤ _
   rw [W_cons, W_nil, cw_w]; omega
  ·refine (want_wt (e := e) h _).bind fun _ r1 hw1 h1 => ?_
   refine (num_wt (e := e) hw1).bind fun k r2 hw2 h2 => ?_
   split
   ·refine ⟨hw2, ?_⟩
    show W e [tw w_text, tn k] + _ ≤ _
    rw [W_cons, W_cons, W_nil, cw_w, cw_n]; omega
   ·trivial
theorem col_wt {l : List Tok} (h : AllZ l) : Wt (fun c r => W e (toksC c) + W e r ≤ W e l) (pCol l) := by
 refine (name_wt (e := e) h).bind fun n r1 hw1 h1 => ?_
 refine (typ_wt (e := e) hw1).bind fun t r2 hw2 h2 => ⟨hw2, ?_⟩
 show W e (tw n :: toksT t.1 t.2) + _ ≤ _
 rw [W_cons, cw_w]; omega
theorem roomN_wt {l : List Tok} (h : AllZ l) (n most : Nat) : Wt (fun _ r => r = l) (if isN l then room n most l else .ok () l) := by
 split
 ·exact room_wt h n most
 ·exact ⟨h, rfl⟩
def WC (e : Nat) (a : List Cl) : Nat := W e (a.flatMap fun c => toksC c ++ [tg [59]])
theorem WC_snoc (a : List Cl) (c : Cl) : WC e (a ++ [c]) = WC e a + W e (toksC c) + (1 + e) := by
 unfold WC
 rw [List.flatMap_append, W_app]
 show _ + W e (toksC c ++ [tg [59]] ++ []) = _
 rw [List.append_nil, W_app, W_cons, W_nil, cw_g]
 simp only [List.length_cons, List.length_nil]; omega
theorem cols_wt : ∀ f a l, AllZ l → Wt (fun b r => WC e b + (1 + e) + W e r ≤ WC e a + W e l) (pCols f a l)
 | 0, _, _, _ => by rw [pCols]; trivial
 | f + 1, a, l, hw => by
  rw [pCols]
  split
  ·rename_i hi
   have hc := isT_cw (e := e) hi
   refine ⟨hw.tail, ?_⟩
   simp only [List.length_cons, List.length_nil] at hc
   omega
  ·refine (roomN_wt hw _ _).bind fun _ r hwr hq => ?_
   subst hq
   refine (col_wt (e := e) hwr).bind fun c r2 hw2 h2 => ?_
   refine (want_wt (e := e) hw2 _).bind fun _ r3 hw3 h3 => ?_
   refine (cols_wt f (a ++ [c]) r3 hw3).mono fun b r4 h4 => ?_
   rw [WC_snoc] at h4
   simp only [List.length_cons, List.length_nil] at h3
   omega
theorem ps_snoc {a : List Cl} (ha : a ≠ []) (c : Cl) : toksPs (a ++ [c]) = toksPs a ++ tg [44] :: toksC c := by
 cases a with
 | nil => exact absurd rfl ha
 | cons x r =>
  show toksC x ++ (r ++ [c]).flatMap _ = (toksC x ++ r.flatMap _) ++ _
  rw [List.flatMap_append, List.append_assoc]
  simp
theorem params_wt : ∀ f a l, a ≠ [] → AllZ l → Wt (fun b r => W e (toksPs b) + W e r ≤ W e (toksPs a) + W e l) (pParams f a l)
 | 0, _, _, _, _ => by rw [pParams]; trivial
 | f + 1, a, l, ha, hw => by
  rw [pParams]
  split
  ·rename_i hi
   have hc := isT_cw (e := e) hi
   refine (roomN_wt hw.tail _ _).bind fun _ r hwr hq => ?_
   subst hq
   refine (col_wt (e := e) hwr).bind fun c r2 hw2 h2 => ?_
   refine (params_wt f (a ++ [c]) r2 (by simp) hw2).mono fun b r4 h4 => ?_
   rw [ps_snoc ha, W_app, W_cons, cw_g] at h4
   simp only [List.length_cons, List.length_nil] at hc h4
   omega
  ·exact ⟨hw, Nat.le_refl _⟩
theorem table_wt {f : Nat} {l : List Tok} (hw : AllZ l) : Wt (fun t r => W e (toksTb t) + W e r ≤ W e l) (pTable f l) := by
 refine (want_wt (e := e) hw _).bind fun _ r1 hw1 h1 => ?_
 refine (name_wt (e := e) hw1).bind fun n r2 hw2 h2 => ?_
 refine (want_wt (e := e) hw2 _).bind fun _ r3 hw3 h3 => ?_
 refine (num_wt (e := e) hw3).bind fun k r4 hw4 h4 => ?_
 refine (want_wt (e := e) hw4 _).bind fun _ r5 hw5 h5 => ?_
 refine (cols_wt (e := e) f [] r5 hw5).bind fun c r6 hw6 h6 => ⟨hw6, ?_⟩
 have h0 : WC e [] = 0 := rfl
 have h7 : W e (toksTb ⟨n, k, c⟩) = w_table.length + e + (n.length + e) + (w_rows.length + e) + ((decL k).length + e) + (1 + e) + WC e c + (1 + e) := by
  unfold toksTb WC
  simp only [W_cons, W_app, W_nil, cw_w, cw_g, cw_n, List.length_cons, List.length_nil]; omega
 dsimp only
 rw [h7]
 simp only [List.length_cons, List.length_nil] at h5
 omega
theorem proc_wt {f : Nat} {l : List Tok} (hw : AllZ l) : Wt (fun t r => W e (toksP t) + W e r ≤ W e l) (pProc f l) := by
 refine (want_wt (e := e) hw _).bind fun _ r1 hw1 h1 => ?_
 refine (name_wt (e := e) hw1).bind fun n r2 hw2 h2 => ?_
 refine (want_wt (e := e) hw2 _).bind fun _ r3 hw3 h3 => ?_
 have hps : Wt (fun b r => W e (toksPs b) + W e r ≤ W e r3) (if isT r3 [41] then Res.ok [] r3 else (pCol r3).bind fun c r => pParams f [c] r) := by
  split
  ·exact ⟨hw3, by show 0 + _ ≤ _; omega⟩
  ·refine (col_wt (e := e) hw3).bind fun c r4 hw4 h4 => ?_
   refine (params_wt (e := e) f [c] r4 (by simp) hw4).mono fun b r5 h5 => ?_
   have : toksPs [c] = toksC c := by show toksC c ++ [] = _; simp
   rw [this] at h5
   omega
 refine hps.bind fun ps r4 hw4 h4 => ?_
 refine (want_wt (e := e) hw4 _).bind fun _ r5 hw5 h5 => ?_
 refine ((stmt_wt e f).2.1 0 r5 hw5).bind fun b r6 hw6 h6 => ⟨hw6, ?_⟩
 have h7 : W e (toksP ⟨n, ps, b⟩) = w_proc.length + e + (n.length + e) + (1 + e) + W e (toksPs ps) + (1 + e) + (1 + e) + W e (toksB b) + (1 + e) := by
  unfold toksP
  simp only [W_cons, W_app, W_nil, cw_w, cw_g, cw_n, List.length_cons, List.length_nil]; omega
 dsimp only
 rw [h7]
 simp only [List.length_cons, List.length_nil] at h3 h5
 omega
theorem flat_snoc {α : Type} (f : α → List Tok) (a : List α) (x : α) : W e ((a ++ [x]).flatMap f) = W e (a.flatMap f) + W e (f x) := by
 rw [List.flatMap_append, W_app]
 show _ + W e (f x ++ []) = _
 rw [List.append_nil]
theorem tables_wt : ∀ f a l, AllZ l → Wt (fun b r => W e (b.flatMap toksTb) + W e r ≤ W e (a.flatMap toksTb) + W e l) (pTables f a l)
 | 0, _, _, _ => by rw [pTables]; trivial
 | f + 1, a, l, hw => by
  rw [pTables]
  split
  ·refine (room_wt hw _ _).bind fun _ r hwr hq => ?_
   subst hq
   refine (table_wt (e := e) hwr).bind fun t r2 hw2 h2 => ?_
   refine (tables_wt f (a ++ [t]) r2 hw2).mono fun b r4 h4 => ?_
   rw [flat_snoc] at h4
   omega
  ·exact ⟨hw, Nat.le_refl _⟩
theorem procs_wt : ∀ f a l, AllZ l → Wt (fun b r => W e (b.flatMap toksP) + W e r ≤ W e (a.flatMap toksP) + W e l) (pProcs f a l)
 | 0, _, _, _ => by rw [pProcs]; trivial
 | f + 1, a, l, hw => by
  rw [pProcs]
  split
  ·refine (room_wt hw _ _).bind fun _ r hwr hq => ?_
   subst hq
   refine (proc_wt (e := e) hwr).bind fun t r2 hw2 h2 => ?_
   refine (procs_wt f (a ++ [t]) r2 hw2).mono fun b r4 h4 => ?_
   rw [flat_snoc] at h4
   omega
  ·exact ⟨hw, Nat.le_refl _⟩
theorem work_wt {f : Nat} {l : List Tok} (hw : AllZ l) : Wt (fun k _ => W e (toksW k) ≤ W e l) (pWork f l) := by
 refine (tables_wt (e := e) f [] l hw).bind fun t r hwr ht => ?_
 refine (procs_wt (e := e) f [] r hwr).bind fun p r2 hw2 hp => ?_
 split
 ·refine ⟨hw2, ?_⟩
  show W e (t.flatMap toksTb ++ p.flatMap toksP) ≤ _
  rw [W_app]
  have h0 : W e (([] : List Tb).flatMap toksTb) = 0 := rfl
  have h1 : W e (([] : List Pc).flatMap toksP) = 0 := rfl
  omega
 ·trivial
end Go.Proofs.YtnbmpfdffoidaaaGreatDoor.Y
namespace Go.Proofs.YtnbmpfdffoidaaaGreatDoor.Y
open O V S X
theorem quo_good : ∀ (n : Nat) (l : List UInt8), l.length ≤ n → ∀ (k : Nat) (q Q : Quo), quoS l k q = some Q → Q.bad = none → q.bad = none ∧ (q.s.all V.okC = true → Q.s.all V.okC = true) ∧ Q.s.length + k ≤ q.s.length + Q.n := by
 intro n
 induction n with
 | zero =>
  intro l hl k q Q h _
  cases l with
  | nil => rw [quoS_nil] at h; cases h
  | cons _ _ => simp at hl
 | succ n ih =>
  intro l hl k q Q h hb
  match l, hl with
  | [], _ => rw [quoS_nil] at h; cases h
  | x :: l, hl =>
   simp at hl
   rw [quoS_cons] at h
   split at h
   ·cases h; exact ⟨hb, fun h => h, Nat.le_refl _⟩
   ·split at h
    ·match l, hl with
     | [], _ => cases h
     | d :: r, hl =>
      obtain ⟨h1, h2, h3⟩ := ih r (by simp at hl; omega) (k + 2) _ _ h hb
      simp only at h1 h2 h3
      cases hq : q.bad with
      | some b => rw [hq] at h1; simp [orE] at h1
      | none =>
       rw [hq] at h1
       simp only [orE] at h1
       refine ⟨rfl, fun ha => h2 ?_, by simp at h3; omega⟩
       have hd : wrongC d = false := by
        cases hw : wrongC d
        ·rfl
        ·rw [hw] at h1; simp at h1
       rw [List.all_append, ha]
       unfold wrongC at hd
       simp at hd
       simp [V.okC]; omega
    ·obtain ⟨h1, h2, h3⟩ := ih l (by omega) (k + 1) _ _ h hb
     simp only at h1 h2 h3
     cases hq : q.bad with
     | some b => rw [hq] at h1; simp [orE] at h1
     | none =>
      rw [hq] at h1
      simp only [orE] at h1
      refine ⟨rfl, fun ha => h2 ?_, by simp at h3; omega⟩
      have hd : wrongC x = false := by
       cases hw : wrongC x
       ·rfl
       ·rw [hw] at h1; simp at h1
      rw [List.all_append, ha]
      unfold wrongC at hd
      simp at hd
      simp [V.okC]; omega
theorem numV_lt : ∀ (l : List UInt8) (a : Nat), l.all digitC = true → l.foldl (fun n c => 10 * n + (c.toNat - 48)) a < (a + 1) * 10 ^ l.length
 | [], a, _ => by simp
 | c :: l, a, h => by
  simp only [List.all_cons, Bool.and_eq_true] at h
  have := numV_lt l (10 * a + (c.toNat - 48)) h.2
  have hd := h.1
  unfold digitC at hd
  simp at hd
  rw [List.foldl_cons]
  refine Nat.lt_of_lt_of_le this ?_
  rw [List.length_cons, Nat.pow_succ, Nat.mul_comm (10 ^ l.length) 10, ← Nat.mul_assoc]
  exact Nat.mul_le_mul_right _ (by omega)
theorem run_all (p : UInt8 → Bool) : ∀ l : List UInt8, (l.take (runLen p l)).all p = true
 | [] => by simp
 | c :: l => by
  unfold runLen
  split
  ·rename_i h
   rw [List.take_succ_cons, List.all_cons, h, run_all p l]; rfl
  ·simp
theorem tok_z (v : List UInt8) (hv : v ≠ []) (he : (tokL v).e = 0) : TokZ ((tokL v).k, v.take (tokL v).n, (tokL v).v) ∧ cw 0 ((tokL v).k, v.take (tokL v).n, (tokL v).v) ≤ 2 * (tokL v).n := by
 cases v with
 | nil => exact absurd rfl hv
 | cons c r =>
  rw [tokL_cons] at he ⊢
  split at he
  ·split at he
   ·cases he
   ·rename_i h1 h2
    rw [if_pos h1, if_neg h2]
    refine ⟨⟨⟨fun h => by simp at h, fun h => by simp at h⟩, fun h => by simp at h⟩, ?_⟩
    rw [cw, if_neg (by simp)]
    simp only [List.length_take]; omega
  ·split at he
   ·split at he
    ·rename_i h1 h2 h3
     rw [if_neg h1, if_pos h2, if_pos h3]
     have ha := run_all digitC (c :: r)
     have hle := runLen_le digitC (c :: r)
     have h0 : 0 < runLen digitC (c :: r) := by unfold runLen; rw [if_pos h2]; omega
     have hl : ((c :: r).take (runLen digitC (c :: r))).length = runLen digitC (c :: r) := by rw [List.length_take]; omega
     generalize (c :: r).take (runLen digitC (c :: r)) = ds at *
     have hlt := numV_lt ds 0 ha
     have hd : (decL ((numV ds : Nat) : Int)).length ≤ ds.length := by
      rw [decL, if_neg (by omega)]
      have h9 : ((numV ds : Nat) : Int).natAbs = numV ds := by omega
      rw [h9]
      have := digN_len (ds.length - 1) (numV ds) (by rw [show ds.length - 1 + 1 = ds.length by omega]; unfold numV; omega)
      omega
     have hok : okNum ((numV ds : Nat) : Int) := by
      unfold numOk at h3
      simp only [Bool.and_eq_true, decide_eq_true_eq] at h3
      have := h3.1
      exact ⟨by omega, by omega⟩
     refine ⟨⟨⟨fun _ => ⟨_, hok, rfl⟩, fun h => by simp at h⟩, fun _ => hd⟩, ?_⟩
     rw [cw, if_neg (by simp)]
     simp only; omega
    ·cases he
   ·split at he
    ·rename_i h1 h2 h3
     rw [if_neg h1, if_neg h2, if_pos h3]
     cases hq : quoS ((c :: r).drop 1) 1 ⟨0, [], none⟩ with
     | none => unfold quoL at he; rw [hq] at he; cases he
     | some Q =>
      cases hb : Q.bad with
      | some k => rw [quoL_bad hq hb] at he; cases he
      | none =>
       rw [quoL_ok hq hb] at he ⊢
       split at he
       ·cases he
       ·rename_i h4
        rw [if_neg h4]
        obtain ⟨_, g2, g3⟩ := quo_good _ _ (Nat.le_refl _) 1 _ Q hq hb
        refine ⟨⟨⟨fun h => by simp at h, fun _ => ⟨Q.s, ?_, rfl⟩⟩, fun h => by simp at h⟩, ?_⟩
        ·unfold plainL
         rw [g2 rfl]
         simp; omega
        ·rw [cw, if_pos rfl]
         have := escL_len Q.s
         simp only [quoteL, List.length_cons, List.length_append, List.length_nil] at g3 ⊢
         omega
    ·split at he
     ·cases he
     ·rename_i h1 h2 h3 h4
      rw [if_neg h1, if_neg h2, if_neg h3, if_neg h4]
      refine ⟨⟨⟨fun h => by simp at h, fun h => by simp at h⟩, fun h => by simp at h⟩, ?_⟩
      rw [cw, if_neg (by simp)]
      simp only [List.length_take]; omega
theorem LexU.z {u : List UInt8} {l : List Tok} {e : Int} {o : Nat} (h : LexU u l e o) : AllZ l ∧ W 0 l ≤ 2 * u.length := by
 induction h with
 | fin _ => exact ⟨fun t ht => (by cases ht), Nat.zero_le _⟩
 | err _ _ _ => exact ⟨fun t ht => (by cases ht), Nat.zero_le _⟩
 | @tok u v l e o h hv he hr ih =>
  obtain ⟨z1, z2⟩ := tok_z v hv he
  have hp := tokL_pos v he
  have h1 := skip_len _ u (Nat.le_refl _)
  rw [h] at h1
  rw [List.length_drop] at ih
  refine ⟨fun t ht => ?_, ?_⟩
  ·rcases List.mem_cons.1 ht with e | e
   ·rw [e]; exact z1
   ·exact ih.1 t e
  ·rw [W_cons]; omega
theorem W_e (e : Nat) : ∀ l : List Tok, W e l = W 0 l + e * l.length
 | [] => by simp [W]
 | t :: l => by rw [W_cons, W_cons, W_e e l, List.length_cons, Nat.mul_add]; unfold cw; omega
theorem LexU.we {u : List UInt8} {l : List Tok} {e : Int} {o : Nat} (h : LexU u l e o) (k : Nat) : W k l ≤ 2 * u.length + k * u.length := by
 have := (Y.LexU.z h).2
 have h2 := h.len
 rw [W_e]
 have := Nat.mul_le_mul_left k h2
 omega
theorem LexU.txt {u : List UInt8} {l : List Tok} {e : Int} {o : Nat} (h : LexU u l e o) : ∀ t ∈ l, t.2.1.length ≤ u.length := by
 induction h with
 | fin _ => exact fun t ht => (by cases ht)
 | err _ _ _ => exact fun t ht => (by cases ht)
 | @tok u v l e o h hv he hr ih =>
  have h1 := skip_len _ u (Nat.le_refl _)
  rw [h] at h1
  rw [List.length_drop] at ih
  intro t ht
  rcases List.mem_cons.1 ht with e | e
  ·rw [e]; simp only [List.length_take]; omega
  ·have := ih t e; omega
end Go.Proofs.YtnbmpfdffoidaaaGreatDoor.Y
namespace Go.Proofs.YtnbmpfdffoidaaaGreatDoor.Y
open Go.RowKit O V S X
theorem own_cap2 {w : World} {base e size n c : Nat} {A : Option Addr} {xs : List Value} (h : w.ownsRow base e size (.slice A n c) n xs) : n ≤ c ∧ c ≤ 9223372036854775807 := by
 rcases h.2 with ⟨hv, h0⟩ | ⟨g, cap, cur, hv, _, _, hnc, hm, _⟩
 ·injection hv with _ _ hc
  omega
 ·injection hv with _ _ hc
  unfold maxLen at hm
  omega
theorem all_y (s : List UInt8) (w : World) (hs : s.length ≤ 16384) : Calls Tryz.prog 14 #[.string ⟨s.toArray⟩] w fun e w' => (∃ A n c er a b d, e = .returned (.tuple #[.slice A n c, .int .i64 er, .agg #[nv a, nv b, nv d]]) ∧ AllX s A n er a b d w' ∧ (n ≤ c ∧ c ≤ 9223372036854775807) ∧ ∀ p, A = some p → w.heap.size ≤ p.block) ∧ Below w.heap.size w w' := by
 obtain ⟨o, hu, ho⟩ := LexU.of_lex s
 have hlen := hu.len
 refine (all_any s w (by omega)).mono fun e w' ⟨h, b⟩ => ⟨?_, b⟩
 unfold RetAll at h
 rw [if_neg (by omega)] at h
 by_cases he : (lexS s (s.length + 1) 0).2.1 = 0
 ·rw [if_neg (by simp [he])] at h
  obtain ⟨A, n, c, xs, rfl, h1, h2⟩ := h
  have hr := Rd.of_own h1
  have hl := hr.len_of TkC.size h2 (by omega)
  rw [List.length_map] at hlen
  exact ⟨A, n, c, 0, 0, 0, 0, rfl, ⟨_, o, by rw [he] at hu; exact hu, fun _ => ⟨rfl, rfl, rfl, _, rfl, ⟨⟨xs, hr, h2.imp (TkD.of (s := s))⟩, by omega⟩⟩, fun h => absurd rfl h⟩, own_cap2 h1, fun p hp => by subst hp; have := (h1.lt p.block rfl).1; omega⟩
 ·rw [if_pos he] at h
  have hoff := ho he
  subst h
  have hcl : clampI s ((lexS s (s.length + 1) 0).2.2 : Nat) = s.length - o := by unfold clampI; rw [if_neg (by omega), if_neg (by omega)]; omega
  rw [hcl]
  exact ⟨none, 0, 0, (lexS s (s.length + 1) 0).2.1, _, _, _, rfl, ⟨_, o, hu, fun h => absurd h he, fun _ => ⟨rfl, by omega, rfl⟩⟩, ⟨by omega, by omega⟩, fun p hp => by cases hp⟩
theorem one_newY {w : World} {o : Obj} {k : Nat} (h : k < w.heap.size) : (w.alloc o).heap[k]? = w.heap[k]? := ((Below.refl w.heap.size w).alloc (Nat.le_refl _) o).block k h
def parseT (l : List Tok) : Res Wk := pWork (4 * l.length + 8) l
def noW : Value := .agg #[.slice none 0 0, .slice none 0 0]
def RetP (s : List UInt8) (lo : Nat) (e : Ending) (w' : World) : Prop := ∃ (v : Value) (er p q r : Int) (l : List Tok) (o : Nat) (er0 : Int), e = .returned (.tuple #[v, nv er, .agg #[nv p, nv q, nv r]]) ∧ LexU s l er0 o ∧
 (er0 ≠ 0 → er ≠ 0 ∧ v = noW) ∧ (er0 = 0 → match parseT l with
  | .ok k _ => er = 0 ∧ ∃ S, WkR w' S k v ∧ In lo w' S
  | _ => er ≠ 0 ∧ v = noW)
theorem parse_any (s : List UInt8) (w : World) (hs : s.length ≤ 16384) : Calls Tryz.prog 5 #[.string ⟨s.toArray⟩] w fun e w' => RetP s w.heap.size e w' ∧ Below w.heap.size w w' := by
 have hmf : ∀ (fn : Fn) (first cap : Array Value) (w : World), (Instr.makeFunc fn first cap).run Tryz.prog w = .ok (.func fn first cap) w := fun _ _ _ _ => rfl
 go_enter_defers Tryz.func5, Tryz.ntmps5
 go_wp2_with fail
 obtain ⟨w1, hw1⟩ : ∃ W, ((w.alloc (.cells #[.slice none 0 0, .slice none 0 0] 25)).alloc (.cells #[.int .i64 0] 26)).alloc (.cells #[.int .i64 0, .int .i64 0, .int .i64 0] 28) = W := ⟨_, rfl⟩
 have hb1 : Below w.heap.size w w1 := by rw [← hw1]; repeat (first | exact Below.refl _ _ | refine Below.alloc ?_ (by simp <;> omega) _)
 have X2 : w1.heap[w.heap.size]? = some (.cells #[.slice none 0 0, .slice none 0 0] 25 (0, 0)) := by rw [← hw1]; exact alloc_old' (alloc_old' (alloc_at rfl))
 have X3 : w1.heap[w.heap.size + 1]? = some (.cells #[.int .i64 0] 26 (0, 0)) := by rw [← hw1]; exact alloc_old' (alloc_at (by simp))
 have X4 : w1.heap[w.heap.size + 1 + 1]? = some (.cells #[.int .i64 0, .int .i64 0, .int .i64 0] 28 (0, 0)) := by rw [← hw1]; exact alloc_at (by simp)
 rw [hw1]
 clear hw1
 refine (all_y s w1 hs).mono ?_; rintro e w2 ⟨⟨A, n, c, er, a, b, d, rfl, hx, hn, hA⟩, b2⟩
 have hz0 : w.heap.size + 1 + 1 < w1.heap.size := (Array.getElem?_eq_some_iff.1 X4).1
 have hz2 := b2.size
 have B2 := Lib.hid (hb1.trans (b2.mono hb1.size))
 replace X2 := Lib.hid (box_next X2 b2)
 replace X3 := Lib.hid (box_next X3 b2)
 replace X4 := Lib.hid (box_next X4 b2)
 clear hb1 b2
 have y20 : w2.cell? ⟨w.heap.size, 0, none⟩ = some (.slice none 0 0) := by rw [Lib.cell_of_heap X2.out]; rfl
 have y21 : w2.cell? ⟨w.heap.size, 1, none⟩ = some (.slice none 0 0) := by rw [Lib.cell_of_heap X2.out]; rfl
 have y3 : w2.cell? ⟨w.heap.size + 1, 0, none⟩ = some (.int .i64 0) := by rw [Lib.cell_of_heap X3.out]; rfl
 have y40 : w2.cell? ⟨w.heap.size + 1 + 1, 0, none⟩ = some (.int .i64 0) := by rw [Lib.cell_of_heap X4.out]; rfl
 have y41 : w2.cell? ⟨w.heap.size + 1 + 1, 1, none⟩ = some (.int .i64 0) := by rw [Lib.cell_of_heap X4.out]; rfl
 have y42 : w2.cell? ⟨w.heap.size + 1 + 1, 2, none⟩ = some (.int .i64 0) := by rw [Lib.cell_of_heap X4.out]; rfl
 have yf20 := Lib.frozen_of_heap X2.out 0
 have yf21 := Lib.frozen_of_heap X2.out 1
 have yf30 := Lib.frozen_of_heap X3.out 0
 have yf40 := Lib.frozen_of_heap X4.out 0
 have yf41 := Lib.frozen_of_heap X4.out 1
 have yf42 := Lib.frozen_of_heap X4.out 2
 have HX := Lib.hid hx
 have HA := Lib.hid hA
 have hz1 : w.heap.size + 1 + 1 < w1.heap.size := hz0
 have hz12 : w1.heap.size ≤ w2.heap.size := hz2
 clear hA
 have HN := Lib.hid hn
 clear hx hn
 have hz : w.heap.size + 1 + 1 < w2.heap.size := (Array.getElem?_eq_some_iff.1 X4.out).1
 by_cases h0 : er = 0
 ·subst h0
  go_wp2_with fail
  obtain ⟨V, hV⟩ : ∃ V, (((w2.setCell ⟨w.heap.size + 1, 0, none⟩ (.int .i64 0)).setCell ⟨w.heap.size + 1 + 1, 0, none⟩ (.int .i64 a)).setCell ⟨w.heap.size + 1 + 1, 1, none⟩ (.int .i64 b)).setCell ⟨w.heap.size + 1 + 1, 2, none⟩ (.int .i64 d) = V := ⟨_, rfl⟩
  have Z2 : V.heap[w.heap.size]? = some (.cells #[.slice none 0 0, .slice none 0 0] 25 (0, 0)) := by
   rw [← hV]
   exact box_setY (box_setY (box_setY (box_setY X2.out _ _ (by omega) _) _ _ (by omega) _) _ _ (by omega) _) _ _ (by omega) _
  have Z3 : V.heap[w.heap.size + 1]? = some (.cells #[.int .i64 0] 26 (0, 0)) := by
   rw [← hV]
   exact box_setY (box_setY (box_setY (heap_set (i := 0) X3.out (.int .i64 0)) _ _ (by omega) _) _ _ (by omega) _) _ _ (by omega) _
  have Z4 : V.heap[w.heap.size + 1 + 1]? = some (.cells #[.int .i64 a, .int .i64 b, .int .i64 d] 28 (0, 0)) := by
   rw [← hV]
   exact heap_set (i := 2) (heap_set (i := 1) (heap_set (i := 0) (box_setY X4.out _ _ (by omega) _) (.int .i64 a)) (.int .i64 b)) (.int .i64 d)
  have hVk : ∀ k, w1.heap.size ≤ k → V.heap[k]? = w2.heap[k]? := fun k hk => by
   rw [← hV]
   rw [Below.heap_setCell _ _ _ _ (by simp only; omega), Below.heap_setCell _ _ _ _ (by simp only; omega), Below.heap_setCell _ _ _ _ (by simp only; omega), Below.heap_setCell _ _ _ _ (by simp only; omega)]
  have hVs : V.heap.size = w2.heap.size := by rw [← hV]; simp
  have BV : Hid (Below w.heap.size w V) := Lib.hid (by
   rw [← hV]
   repeat (first | (with_reducible exact B2.out) | refine Below.setCell ?_ (by simp only; omega) _))
  rw [hV]
  clear hV X2 X3 X4 y20 y21 y3 y40 y41 y42 yf20 yf21 yf30 yf40 yf41 yf42
  refine (at_any s s.length V (by omega)).mono ?_; rintro e w3 ⟨rfl, b3⟩
  have hcl : plc s (clampI s (s.length : Nat)) = .agg #[nv (s.length : Nat), nv (lineOf s s.length : Nat), nv ((s.length : Int) - (startOf s s.length : Int) + 1)] := by
   have : clampI s (s.length : Nat) = s.length := by unfold clampI; rw [if_neg (by omega), if_neg (by omega)]; omega
   rw [this]; rfl
  rw [hcl]
  obtain ⟨pl, hpl⟩ : ∃ z : Int, z = (lineOf s s.length : Nat) := ⟨_, rfl⟩
  obtain ⟨pc, hpc⟩ : ∃ z : Int, z = ((s.length : Int) - (startOf s s.length : Int) + 1) := ⟨_, rfl⟩
  rw [← hpl, ← hpc]
  clear hcl hpl hpc
  replace Z2 := Lib.hid (box_next Z2 b3)
  replace Z3 := Lib.hid (box_next Z3 b3)
  replace Z4 := Lib.hid (box_next Z4 b3)
  have hs3 := b3.size
  have K3 : Hid (∀ k, w1.heap.size ≤ k → k < w2.heap.size → w3.heap[k]? = w2.heap[k]?) := Lib.hid fun k h1 h2 => (b3.block k (by omega)).trans (hVk k h1)
  have B3 := Lib.hid (BV.out.trans (b3.mono BV.out.size))
  clear b3 hVk BV
  go_wp2_with fail
  obtain ⟨w4, hw4⟩ : ∃ W, w3.alloc (Obj.cells #[.slice A n c, nv (s.length : Nat), nv pl, nv pc, .int .i64 0] 54) = W := ⟨_, rfl⟩
  obtain ⟨l, o, hu, hx1, _⟩ := HX.out
  obtain ⟨rfl, rfl, rfl, l', hm, hr⟩ := hx1 rfl
  have hps : Ps w4 w3.heap.size 0 l := by
   rw [← hw4]
   refine ⟨A, n, c, (s.length : Nat), pl, pc, alloc_at rfl, ⟨?_, HN.out⟩, (Y.LexU.z hu).1.w, fun t ht => by have := Y.LexU.txt hu t ht; omega⟩
   obtain ⟨xs, h1, h2⟩ := hr.rd
   refine ⟨xs, ⟨h1.1, fun hp => ?_⟩, hm ▸ tks_core h2⟩
   obtain ⟨b, off, e, hb, hc⟩ := h1.2 hp
   refine ⟨b, off, e, by omega, fun j hj => ?_⟩
   have hbA := HA.out _ e
   refine (World.cell?_of_block (a := ⟨b, off + j, none⟩) ?_).trans (hc j hj)
   rw [← K3.out b hbA hb]
   exact one_newY (by simp only; omega)
  have B4 : Hid (Below w.heap.size w w4) := Lib.hid (by rw [← hw4]; exact B3.out.alloc (by omega) _)
  replace Z2 : Hid (w4.heap[w.heap.size]? = some (.cells #[.slice none 0 0, .slice none 0 0] 25 (0, 0))) := Lib.hid (by rw [← hw4]; exact alloc_old' Z2.out)
  replace Z3 : Hid (w4.heap[w.heap.size + 1]? = some (.cells #[.int .i64 0] 26 (0, 0))) := Lib.hid (by rw [← hw4]; exact alloc_old' Z3.out)
  replace Z4 : Hid (w4.heap[w.heap.size + 1 + 1]? = some (.cells #[.int .i64 0, .int .i64 0, .int .i64 0] 28 (0, 0))) := Lib.hid (by rw [← hw4]; exact alloc_old' Z4.out)
  have hs4 : w3.heap.size < w4.heap.size := by rw [← hw4]; simp
  rw [hw4]
  clear hw4 hr hm HX hx1 K3
  have hno : parseT l ≠ .oof := fun h => by
   have := work_snd (f := 4 * l.length + 8) (Y.LexU.z hu).1.w (Nat.le_refl _)
   rw [show pWork (4 * l.length + 8) l = .oof from h] at this
   exact this
  have HU := Lib.hid hu
  refine (work_any (4 * l.length + 8) w3.heap.size l w4 hps hno).mono ?_; rintro e w5 hN
  have m := Lib.hid hN.1
  have Q5 : Hid (Below w.heap.size w w5) := Lib.hid (B4.out.trans (m.out.below (by omega) (fun x hx => by simp at hx; omega)))
  replace Z2 := Lib.hid (m.out.box Z2.out (by simp; omega))
  replace Z3 := Lib.hid (m.out.box Z3.out (by simp; omega))
  replace Z4 := Lib.hid (m.out.box Z4.out (by simp; omega))
  have hs5 := m.out.size
  rcases hN.parts with ⟨hp, er, ep, eq, ez, hne, rfl⟩ | ⟨k, r, v, hp, pN, rfl, hg⟩
  ·clear hN hps
   have HNE := Lib.hid hne
   have HP := Lib.hid hp
   clear hne hp
   go_wp2_with fail
   refine leaves_cons (f := 15) (args := #[.pointer (some ⟨w.heap.size, 0, none⟩), .pointer (some ⟨w.heap.size + 1, 0, none⟩), .pointer (some ⟨w.heap.size + 1 + 1, 0, none⟩)]) (by simp) (by simp [go_sem]) ?_
   refine (parse1_fault _ _ _ er ep eq ez _ _ _ _ _ _ w5 Z2.out Z3.out Z4.out (by omega) (by omega)).mono ?_
   rintro e u' w6 ⟨rfl, rfl, m6, q2, q3, q4⟩
   have hfin : RetP s w.heap.size (.returned (.tuple #[noW, nv er, .agg #[nv ep, nv eq, nv ez]])) w6 ∧ Below w.heap.size w w6 := by
    refine ⟨⟨noW, er, ep, eq, ez, l, o, 0, rfl, HU.out, fun h => absurd rfl h, fun _ => ?_⟩, Q5.out.trans (m6.below (by have := Q5.out.size; omega) (fun x hx => by simp at hx; omega))⟩
    rw [show parseT l = .bad from HP.out]
    exact ⟨HNE.out, rfl⟩
   have HF := Lib.hid hfin
   clear hfin
   have y20 : w6.cell? ⟨w.heap.size, 0, none⟩ = some (.slice none 0 0) := by rw [Lib.cell_of_heap q2]; rfl
   have y21 : w6.cell? ⟨w.heap.size, 1, none⟩ = some (.slice none 0 0) := by rw [Lib.cell_of_heap q2]; rfl
   have y3 : w6.cell? ⟨w.heap.size + 1, 0, none⟩ = some (.int .i64 er) := by rw [Lib.cell_of_heap q3]; rfl
   have y40 : w6.cell? ⟨w.heap.size + 1 + 1, 0, none⟩ = some (.int .i64 ep) := by rw [Lib.cell_of_heap q4]; rfl
   have y41 : w6.cell? ⟨w.heap.size + 1 + 1, 1, none⟩ = some (.int .i64 eq) := by rw [Lib.cell_of_heap q4]; rfl
   have y42 : w6.cell? ⟨w.heap.size + 1 + 1, 2, none⟩ = some (.int .i64 ez) := by rw [Lib.cell_of_heap q4]; rfl
   simp [Leaves, settle, results, Tryz.results5, go_sem, y20, y21, y3, y40, y41, y42]
   exact HF.out
  ·obtain ⟨S, ⟨A', c', es, B', d', fs, rfl, r1, r2, r3⟩, hin⟩ := hg
   have HG : Hid (WkR w5 S k (.agg #[.slice A' k.tables.length c', .slice B' k.procs.length d']) ∧ In w4.heap.size w5 S) := Lib.hid ⟨⟨A', c', es, B', d', fs, rfl, r1, r2, r3⟩, hin⟩
   have HP := Lib.hid hp
   clear hN hps r1 r2 r3 hin hp pN
   have yf20 := Lib.frozen_of_heap Z2.out 0
   have yf21 := Lib.frozen_of_heap Z2.out 1
   have yf30 := Lib.frozen_of_heap Z3.out 0
   have yf40 := Lib.frozen_of_heap Z4.out 0
   have yf41 := Lib.frozen_of_heap Z4.out 1
   have yf42 := Lib.frozen_of_heap Z4.out 2
   have y20 : w5.cell? ⟨w.heap.size, 0, none⟩ = some (.slice none 0 0) := by rw [Lib.cell_of_heap Z2.out]; rfl
   have y21 : w5.cell? ⟨w.heap.size, 1, none⟩ = some (.slice none 0 0) := by rw [Lib.cell_of_heap Z2.out]; rfl
   have y3 : w5.cell? ⟨w.heap.size + 1, 0, none⟩ = some (.int .i64 0) := by rw [Lib.cell_of_heap Z3.out]; rfl
   have y40 : w5.cell? ⟨w.heap.size + 1 + 1, 0, none⟩ = some (.int .i64 0) := by rw [Lib.cell_of_heap Z4.out]; rfl
   have y41 : w5.cell? ⟨w.heap.size + 1 + 1, 1, none⟩ = some (.int .i64 0) := by rw [Lib.cell_of_heap Z4.out]; rfl
   have y42 : w5.cell? ⟨w.heap.size + 1 + 1, 2, none⟩ = some (.int .i64 0) := by rw [Lib.cell_of_heap Z4.out]; rfl
   go_wp2_with fail
   refine leaves_cons (f := 15) (args := #[.pointer (some ⟨w.heap.size, 0, none⟩), .pointer (some ⟨w.heap.size + 1, 0, none⟩), .pointer (some ⟨w.heap.size + 1 + 1, 0, none⟩)]) (by simp) (by simp [go_sem]) ?_
   refine (parse1_idle _ _ _ _).mono ?_
   rintro e u' w6 ⟨rfl, rfl, rfl⟩
   have q2 := box_setY (box_setY (box_setY (box_setY (heap_set (i := 1) (heap_set (i := 0) Z2.out (.slice A' k.tables.length c')) (.slice B' k.procs.length d')) (w.heap.size + 1) 0 (by omega) (.int .i64 0)) (w.heap.size + 1 + 1) 0 (by omega) (.int .i64 0)) (w.heap.size + 1 + 1) 1 (by omega) (.int .i64 0)) (w.heap.size + 1 + 1) 2 (by omega) (.int .i64 0)
   have q3 := box_setY (box_setY (box_setY (heap_set (i := 0) (box_setY (box_setY Z3.out w.heap.size 0 (by omega) (.slice A' k.tables.length c')) w.heap.size 1 (by omega) (.slice B' k.procs.length d')) (.int .i64 0)) (w.heap.size + 1 + 1) 0 (by omega) (.int .i64 0)) (w.heap.size + 1 + 1) 1 (by omega) (.int .i64 0)) (w.heap.size + 1 + 1) 2 (by omega) (.int .i64 0)
   have q4 := heap_set (i := 2) (heap_set (i := 1) (heap_set (i := 0) (box_setY (box_setY (box_setY Z4.out w.heap.size 0 (by omega) (.slice A' k.tables.length c')) w.heap.size 1 (by omega) (.slice B' k.procs.length d')) (w.heap.size + 1) 0 (by omega) (.int .i64 0)) (.int .i64 0)) (.int .i64 0)) (.int .i64 0)
   obtain ⟨w6, hw6⟩ : ∃ W, (((((w5.setCell ⟨w.heap.size, 0, none⟩ (.slice A' k.tables.length c')).setCell ⟨w.heap.size, 1, none⟩ (.slice B' k.procs.length d')).setCell ⟨w.heap.size + 1, 0, none⟩ (.int .i64 0)).setCell ⟨w.heap.size + 1 + 1, 0, none⟩ (.int .i64 0)).setCell ⟨w.heap.size + 1 + 1, 1, none⟩ (.int .i64 0)).setCell ⟨w.heap.size + 1 + 1, 2, none⟩ (.int .i64 0) = W := ⟨_, rfl⟩
   have hk6 : ∀ x, w.heap.size + 1 + 1 < x → w6.heap[x]? = w5.heap[x]? := fun x hx => by
    rw [← hw6]
    iterate 6 rw [Below.heap_setCell _ _ _ _ (by simp only; omega)]
   have hs6 : w6.heap.size = w5.heap.size := by rw [← hw6]; simp
   have B6 : Below w.heap.size w w6 := by
    rw [← hw6]
    repeat (first | (with_reducible exact Q5.out) | refine Below.setCell ?_ (by simp only; omega) _)
   have hfin : RetP s w.heap.size (.returned (.tuple #[.agg #[.slice A' k.tables.length c', .slice B' k.procs.length d'], nv 0, .agg #[nv 0, nv 0, nv 0]])) w6 ∧ Below w.heap.size w w6 := by
    refine ⟨⟨_, 0, 0, 0, 0, l, o, 0, rfl, HU.out, fun h => absurd rfl h, fun _ => ?_⟩, B6⟩
    rw [show parseT l = .ok k r from HP.out]
    refine ⟨rfl, S, HG.out.1.keep fun x hx => hk6 x (by have := (HG.out.2 x hx).1; omega), fun x hx => ?_⟩
    have := HG.out.2 x hx
    omega
   have HF := Lib.hid hfin
   clear hfin y20 y21 y3 y40 y41 y42
   rw [hw6] at q2 q3 q4 ⊢
   have y20 : w6.cell? ⟨w.heap.size, 0, none⟩ = some (.slice A' k.tables.length c') := by rw [Lib.cell_of_heap q2]; rfl
   have y21 : w6.cell? ⟨w.heap.size, 1, none⟩ = some (.slice B' k.procs.length d') := by rw [Lib.cell_of_heap q2]; rfl
   have y3 : w6.cell? ⟨w.heap.size + 1, 0, none⟩ = some (.int .i64 0) := by rw [Lib.cell_of_heap q3]; rfl
   have y40 : w6.cell? ⟨w.heap.size + 1 + 1, 0, none⟩ = some (.int .i64 0) := by rw [Lib.cell_of_heap q4]; rfl
   have y41 : w6.cell? ⟨w.heap.size + 1 + 1, 1, none⟩ = some (.int .i64 0) := by rw [Lib.cell_of_heap q4]; rfl
   have y42 : w6.cell? ⟨w.heap.size + 1 + 1, 2, none⟩ = some (.int .i64 0) := by rw [Lib.cell_of_heap q4]; rfl
   simp [Leaves, settle, results, Tryz.results5, go_sem, y20, y21, y3, y40, y41, y42]
   exact HF.out
 ·have d0 : (er != 0) = true := by simp [h0]
  go_wp2_with fail
  go_region
  go_wp2_with fail
  have q2 := (box_setY (box_setY (box_setY (box_setY (heap_set (i := 1) (heap_set (i := 0) (box_setY (box_setY (box_setY (box_setY X2.out (w.heap.size + 1) 0 (by omega) (.int .i64 er)) (w.heap.size + 1 + 1) 0 (by omega) (.int .i64 a)) (w.heap.size + 1 + 1) 1 (by omega) (.int .i64 b)) (w.heap.size + 1 + 1) 2 (by omega) (.int .i64 d)) (.slice none 0 0)) (.slice none 0 0)) (w.heap.size + 1) 0 (by omega) (.int .i64 er)) (w.heap.size + 1 + 1) 0 (by omega) (.int .i64 a)) (w.heap.size + 1 + 1) 1 (by omega) (.int .i64 b)) (w.heap.size + 1 + 1) 2 (by omega) (.int .i64 d))
  have q3 := (box_setY (box_setY (box_setY (heap_set (i := 0) (box_setY (box_setY (box_setY (box_setY (box_setY (heap_set (i := 0) X3.out (.int .i64 er)) (w.heap.size + 1 + 1) 0 (by omega) (.int .i64 a)) (w.heap.size + 1 + 1) 1 (by omega) (.int .i64 b)) (w.heap.size + 1 + 1) 2 (by omega) (.int .i64 d)) (w.heap.size) 0 (by omega) (.slice none 0 0)) (w.heap.size) 1 (by omega) (.slice none 0 0)) (.int .i64 er)) (w.heap.size + 1 + 1) 0 (by omega) (.int .i64 a)) (w.heap.size + 1 + 1) 1 (by omega) (.int .i64 b)) (w.heap.size + 1 + 1) 2 (by omega) (.int .i64 d))
  have q4 := (heap_set (i := 2) (heap_set (i := 1) (heap_set (i := 0) (box_setY (box_setY (box_setY (heap_set (i := 2) (heap_set (i := 1) (heap_set (i := 0) (box_setY X4.out (w.heap.size + 1) 0 (by omega) (.int .i64 er)) (.int .i64 a)) (.int .i64 b)) (.int .i64 d)) (w.heap.size) 0 (by omega) (.slice none 0 0)) (w.heap.size) 1 (by omega) (.slice none 0 0)) (w.heap.size + 1) 0 (by omega) (.int .i64 er)) (.int .i64 a)) (.int .i64 b)) (.int .i64 d))
  obtain ⟨V6, hV6⟩ : ∃ W, ((((((((((w2.setCell ⟨w.heap.size + 1, 0, none⟩ (.int .i64 er)).setCell ⟨w.heap.size + 1 + 1, 0, none⟩ (.int .i64 a)).setCell ⟨w.heap.size + 1 + 1, 1, none⟩ (.int .i64 b)).setCell ⟨w.heap.size + 1 + 1, 2, none⟩ (.int .i64 d)).setCell ⟨w.heap.size, 0, none⟩ (.slice none 0 0)).setCell ⟨w.heap.size, 1, none⟩ (.slice none 0 0)).setCell ⟨w.heap.size + 1, 0, none⟩ (.int .i64 er)).setCell ⟨w.heap.size + 1 + 1, 0, none⟩ (.int .i64 a)).setCell ⟨w.heap.size + 1 + 1, 1, none⟩ (.int .i64 b)).setCell ⟨w.heap.size + 1 + 1, 2, none⟩ (.int .i64 d)) = W := ⟨_, rfl⟩
  have B6 : Below w.heap.size w V6.drew := by
   rw [← hV6]
   refine Below.drew ?_
   repeat (first | (with_reducible exact B2.out) | refine Below.setCell ?_ (by simp only; omega) _)
  rw [hV6] at q2 q3 q4 ⊢
  clear hV6
  obtain ⟨w6, hw6⟩ : ∃ W, V6.drew = W := ⟨_, rfl⟩
  have hk6 : ∀ k : Nat, w6.heap[k]? = V6.heap[k]? := fun k => by rw [← hw6]; rfl
  rw [← hk6] at q2 q3 q4
  rw [hw6] at B6 ⊢
  obtain ⟨l, o, hu, _, hx2⟩ := HX.out
  have hfin : RetP s w.heap.size (.returned (.tuple #[noW, nv er, .agg #[nv a, nv b, nv d]])) w6 ∧ Below w.heap.size w w6 := ⟨⟨noW, er, a, b, d, l, o, er, rfl, hu, fun _ => ⟨h0, rfl⟩, fun h => absurd h h0⟩, B6⟩
  have HF := Lib.hid hfin
  clear hfin y20 y21 y3 y40 y41 y42
  have y20 : w6.cell? ⟨w.heap.size, 0, none⟩ = some (.slice none 0 0) := by rw [Lib.cell_of_heap q2]; rfl
  have y21 : w6.cell? ⟨w.heap.size, 1, none⟩ = some (.slice none 0 0) := by rw [Lib.cell_of_heap q2]; rfl
  have y3 : w6.cell? ⟨w.heap.size + 1, 0, none⟩ = some (.int .i64 er) := by rw [Lib.cell_of_heap q3]; rfl
  have y40 : w6.cell? ⟨w.heap.size + 1 + 1, 0, none⟩ = some (.int .i64 a) := by rw [Lib.cell_of_heap q4]; rfl
  have y41 : w6.cell? ⟨w.heap.size + 1 + 1, 1, none⟩ = some (.int .i64 b) := by rw [Lib.cell_of_heap q4]; rfl
  have y42 : w6.cell? ⟨w.heap.size + 1 + 1, 2, none⟩ = some (.int .i64 d) := by rw [Lib.cell_of_heap q4]; rfl
  simp [Leaves, bodyPostD, results, Tryz.results5, go_sem, y20, y21, y3, y40, y41, y42]
  exact HF.out
end Go.Proofs.YtnbmpfdffoidaaaGreatDoor.Y
