/- Texts of the proof, joined: SynRp3, SynExP, SynEq. -/
import Derived.Test.YtnbmpfdffoidaaaGreatEx12
import Derived.Test.YtnbmpfdffoidaaaGreatEx27
import Derived.Test.YtnbmpfdffoidaaaGreatEx28
import Derived.OpenShut
import Derived.ProofKit
set_option linter.unusedVariables false
set_option linter.unusedSimpArgs false
set_option maxHeartbeats 8000000
set_option maxRecDepth 100000
namespace Go.Proofs.YtnbmpfdffoidaaaGreat.Y
open Go.RowKit O V S X
theorem part_at {x : Ex} {A : Option Addr} {c : Nat} {S : Nat → Prop} {i : Nat} {w : World} (hi : i < (parts x).length) (h : ExAt w S x A c) (hS : ∀ b, S b → b < w.heap.size) :
  ∃ A' c' p' q' r', PartE (.slice A (parts x).length c) i (exX (parts x)[i] A' c' p' q' r') w ∧ ExAt w S (parts x)[i] A' c' := by
 obtain ⟨b, off, A', c', p', q', r', rfl, hb, hc, h3⟩ := h.part hS hi
 refine ⟨A', c', p', q', r', fun w' hw => ?_, h3⟩
 exact part_raw b off (parts x).length c i rfl hi (by have := parts_len x; omega) _ _ _ _ _ _ _ A' _ c' p' q' r' w' (by have := hw.size; omega) (fun j hj => (hw.cell (p := ⟨b, off + i * 11 + j, none⟩) hb).trans (hc j hj))
theorem sp_brk (x : Ex) : sp (tg [40] :: (toks0 x ++ [tg [41]])) = [40, 32] ++ sp (toks0 x) ++ [41, 32] := by
 rw [sp_cons, sp_app, sp_cons, sp_nil]
 simp [tg]
def RPX0 (x : Ex) : Prop := ∀ least, least ≤ lvlX x → RPX x least
theorem RPX0.all {x : Ex} (hx : okX x) (h : RPX0 x) : ∀ least, RPX x least := by
 intro least
 by_cases hl : least ≤ lvlX x
 ·exact h least hl
 ·intro hlen A c p q r S w hat hS
  rw [toksX_yes (by omega), sp_brk] at hlen ⊢
  have hT : (sp (toks0 x)).length ≤ 100000000 := by simp at hlen; omega
  have h0 := h 0 (by omega) (by rw [toksX_no (by omega)]; exact hT) A c p q r S w hat hS
  rw [toksX_no (by omega)] at h0
  cases x with
  | bin op a b => exact rbrk_bin _ _ _ _ _ _ _ _ _ _ _ w op least hx.1 _ (by have : lvlX (.bin op a b) = lvlS op := rfl; omega) (by omega) h0
  | un op a => exact rbrk_un _ _ _ _ _ _ _ _ _ _ _ _ w least _ (by have : lvlX (.un op a) = 6 := rfl; omega) (by omega) h0
  | val v => exact rbrk_leaf _ _ _ _ _ _ _ _ _ _ _ _ _ w least _ (by simp [hdK]) (by simp [hdK]) (by have : lvlX (.val v) = 7 := rfl; omega) (by omega) h0
  | var n => exact rbrk_leaf _ _ _ _ _ _ _ _ _ _ _ _ _ w least _ (by simp [hdK]) (by simp [hdK]) (by have : lvlX (.var n) = 7 := rfl; omega) (by omega) h0
  | cell n col k => exact rbrk_leaf _ _ _ _ _ _ _ _ _ _ _ _ _ w least _ (by simp [hdK]) (by simp [hdK]) (by have : lvlX (.cell n col k) = 7 := rfl; omega) (by omega) h0
  | has n k => exact rbrk_leaf _ _ _ _ _ _ _ _ _ _ _ _ _ w least _ (by simp [hdK]) (by simp [hdK]) (by have : lvlX (.has n k) = 7 := rfl; omega) (by omega) h0
  | sum n col a b => exact rbrk_leaf _ _ _ _ _ _ _ _ _ _ _ _ _ w least _ (by simp [hdK]) (by simp [hdK]) (by have : lvlX (.sum n col a b) = 7 := rfl; omega) (by omega) h0
  | cnt n a b => exact rbrk_leaf _ _ _ _ _ _ _ _ _ _ _ _ _ w least _ (by simp [hdK]) (by simp [hdK]) (by have : lvlX (.cnt n a b) = 7 := rfl; omega) (by omega) h0
theorem rpx_any : ∀ x, okX x → ∀ least, RPX x least :=
 Ex.ind fun x ih hx => by
  refine RPX0.all hx fun least hl hlen A c p q r S w hat hS => ?_
  rw [toksX_no hl] at hlen ⊢
  cases x with
  | val v =>
   have h1 : v.s.length ≤ 100000000 ∧ -9223372036854775808 ≤ v.n ∧ v.n ≤ 9223372036854775807 := by
    have hx : okV v := hx
    obtain ⟨k, n, s⟩ := v
    rcases right_cases hx.1 with ⟨e, e2⟩ | ⟨e, e2, e3⟩ | ⟨e, e2, e3⟩
    ·have := hx.2 e
     simp only at e2 this ⊢
     rw [e2]
     simp only [List.length_nil]
     omega
    ·simp only at e2 e3 ⊢
     rw [e2]
     simp only [List.length_nil]
     omega
    ·have := plain_len e3
     simp only at e2 this ⊢
     omega
   have e : sp (toks0 (.val v)) = printV ⟨v.k, v.n, v.s⟩ ++ [32] := by
    show sp [tv v] = _
    rw [sp_cons, sp_nil, tv_text (show okV v from hx).1]
   rw [e] at hlen ⊢
   exact rval_raw v.k v.n v.s [] [] 0 A 0 c p q r w least hl h1.1 h1.2.1 h1.2.2 (by simp at hlen; omega)
  | var n =>
   have e : sp (toks0 (.var n)) = n ++ [32] := by
    show sp [tw n] = _
    rw [sp_cons, sp_nil]; rfl
   rw [e] at hlen ⊢
   exact rvar_raw 0 0 [] n [] 0 A 0 c p q r w least hl (by simp at hlen; omega)
  | cell n col k =>
   obtain ⟨A', c', p', q', r', h1, h2⟩ := part_at (i := 0) (by simp [parts]) hat hS
   have e : sp (toks0 (.cell n col k)) = n ++ [32, 91, 32] ++ sp (toks0 k) ++ [93, 32, 46, 32] ++ col ++ [32] := by
    rw [toks0]
    simp [sp_cons, sp_app, sp_nil, tw, tg]
   rw [e] at hlen ⊢
   have hk := ih k (by simp [parts]) hx.2.2 0 (by rw [toksX_no (by omega)]; simp at hlen; omega) A' c' p' q' r' S w h2 hS
   rw [toksX_no (by omega)] at hk
   exact rcell_raw 0 0 [] n col 0 A 1 c p q r w least hl (by simp at hlen; omega) (by simp at hlen; omega) _ _ (by simp at hlen; omega) h1 hk
  | un op a =>
   obtain ⟨A', c', p', q', r', h1, h2⟩ := part_at (i := 0) (by simp [parts]) hat hS
   have e : sp (toks0 (.un op a)) = (if op = 13 then [33, 32] else [45, 32]) ++ sp (toksX a 6) := by
    rw [toks0, sp_cons]
    split <;> rfl
   rw [e] at hlen ⊢
   have hk := ih a (by simp [parts]) hx.2 6 (by simp at hlen; omega) A' c' p' q' r' S w h2 hS
   exact run_raw 0 0 [] [] [] A 1 c p q r w op least hx.1 hl _ _ (by simp at hlen; omega) h1 hk
  | bin op a b =>
   obtain ⟨A', c', p', q', r', h1, h2⟩ := part_at (i := 0) (by simp [parts]) hat hS
   obtain ⟨A2, c2, p2, q2, r2, h3, h4⟩ := part_at (i := 1) (by simp [parts]) hat hS
   have e : sp (toks0 (.bin op a b)) = sp (toksX a (lvlS op)) ++ signS op ++ [32] ++ sp (toksX b (lvlS op + 1)) := by
    rw [toks0]
    simp [sp_cons, sp_app, tg, toksX]
   rw [e] at hlen ⊢
   have hk := ih a (by simp [parts]) hx.2.1 (lvlS op) (by simp at hlen; omega) A' c' p' q' r' S w h2 hS
   have hk2 := ih b (by simp [parts]) hx.2.2 (lvlS op + 1) (by simp at hlen; omega) A2 c2 p2 q2 r2 S w h4 hS
   exact rbin_raw 0 0 [] [] [] A 2 c p q r w op least (lvlS op + 1) hx.1 hl rfl _ _ _ _ (by simp at hlen; omega) (by simp at hlen; omega) h1 h3 hk hk2
  | has n k =>
   have e : sp (toks0 (.has n k)) = w_has ++ [32, 40, 32] ++ n ++ [32] ++ aT [k] ++ [41, 32] := by
    rw [toks0]
    simp [sp_cons, sp_app, sp_nil, tw, tg, aT]
   rw [e] at hlen ⊢
   exact rq4 0 0 [] n [] 0 A c p q r w [k] S (by simp) hat.ex hS (fun y hy => ih y hy (by simp at hy; subst hy; exact hx.2) 0) least hl (by simp [w_has] at hlen ⊢; omega) (by simp [w_has] at hlen ⊢; omega)
  | sum n col a b =>
   have e : sp (toks0 (.sum n col a b)) = w_sum ++ [32, 40, 32] ++ n ++ [32] ++ ([46, 32] ++ col ++ [32]) ++ aT [a, b] ++ [41, 32] := by
    rw [toks0]
    simp [sp_cons, sp_app, sp_nil, tw, tg, aT]
   rw [e] at hlen ⊢
   exact rq5 0 0 [] n col 0 A c p q r w [a, b] S (by simp) hat.ex hS (fun y hy => ih y hy (by simp at hy; rcases hy with rfl | rfl; exact hx.2.2.1; exact hx.2.2.2) 0) least hl (by simp [w_sum] at hlen ⊢; omega) (by simp [w_sum] at hlen ⊢; omega)
  | cnt n a b =>
   have e : sp (toks0 (.cnt n a b)) = w_count ++ [32, 40, 32] ++ n ++ [32] ++ aT [a, b] ++ [41, 32] := by
    rw [toks0]
    simp [sp_cons, sp_app, sp_nil, tw, tg, aT]
   rw [e] at hlen ⊢
   exact rq6 0 0 [] n [] 0 A c p q r w [a, b] S (by simp) hat.ex hS (fun y hy => ih y hy (by simp at hy; rcases hy with rfl | rfl; exact hx.2.1; exact hx.2.2) 0) least hl (by simp [w_count] at hlen ⊢; omega) (by simp [w_count] at hlen ⊢; omega)
end Go.Proofs.YtnbmpfdffoidaaaGreat.Y
namespace Go.Proofs.YtnbmpfdffoidaaaGreat.Y
open Go.RowKit O V S X
theorem leafX_ok (n : Nat) : okX (leafX n) := by
 unfold leafX
 split
 ·show isNameL [120] = true; decide
 ·split
  ·exact ⟨by simp [right], fun _ => by simp only; omega⟩
  ·exact ⟨by decide, fun h => by simp at h⟩
theorem stepX_ok {x : Ex} (h : okX x) (n : Nat) : okX (stepX x n) := by
 have ht : isNameL [116] = true := by decide
 have hc : isNameL [99] = true := by decide
 unfold stepX
 split
 ·exact ⟨.inl rfl, h⟩
 ·split
  ·exact ⟨.inr rfl, h⟩
  ·split
   ·exact ⟨ht, hc, h⟩
   ·split
    ·exact ⟨ht, h⟩
    ·split
     ·exact ⟨ht, hc, h, leafX_ok _⟩
     ·split
      ·exact ⟨ht, leafX_ok _, h⟩
      ·have hop : 1 ≤ n % 18 - 5 ∧ n % 18 - 5 ≤ 12 := by omega
       split
       ·exact ⟨hop, leafX_ok _, h⟩
       ·exact ⟨hop, h, leafX_ok _⟩
theorem nd_leaf (n : Nat) (k : Nat) (hk : k ≤ 7) : ndb (leafX n) k (nd (leafX n)) = 0 := by
 unfold leafX
 have h7 : ∀ x : Ex, lvlX x = 7 → nd x = 0 → ndb x k (nd x) = 0 := fun x h h2 => by unfold ndb; rw [if_neg (by omega), h2]
 split
 ·exact h7 _ rfl rfl
 ·split <;> exact h7 _ rfl rfl
theorem nd_leaf0 (n : Nat) : nd (leafX n) = 0 := by
 unfold leafX
 split
 ·rfl
 ·split <;> rfl
theorem stepX_nd {x : Ex} {i : Nat} (h : ndb x 6 (nd x) ≤ i) (n : Nat) : ndb (stepX x n) 6 (nd (stepX x n)) ≤ i + 1 := by
 have h0 : nd x ≤ i := Nat.le_trans ndb_ge h
 have h7 : ∀ y : Ex, 6 ≤ lvlX y → nd y ≤ i + 1 → ndb y 6 (nd y) ≤ i + 1 := fun y h1 h2 => by rw [ndb_no h1]; exact h2
 unfold stepX
 split
 ·exact h7 _ (Nat.le_refl _) (by show ndb x 6 (nd x) + 1 ≤ _; omega)
 ·split
  ·exact h7 _ (Nat.le_refl _) (by show ndb x 6 (nd x) + 1 ≤ _; omega)
  ·split
   ·exact h7 _ (by show 6 ≤ 7; omega) (by show nd x + 1 ≤ _; omega)
   ·split
    ·exact h7 _ (by show 6 ≤ 7; omega) (by show nd x + 1 ≤ _; omega)
    ·split
     ·exact h7 _ (by show 6 ≤ 7; omega) (by show max (nd x) (nd (leafX _)) + 1 ≤ _; rw [nd_leaf0]; omega)
     ·split
      ·exact h7 _ (by show 6 ≤ 7; omega) (by show max (nd (leafX _)) (nd x) + 1 ≤ _; rw [nd_leaf0]; omega)
      ·have hb := lvlS_bound (op := n % 18 - 5) (by omega)
       have hx1 : ndb x (lvlS (n % 18 - 5)) (nd x) ≤ i := Nat.le_trans (ndb_mono (by omega)) h
       have hx2 : ndb x (lvlS (n % 18 - 5) + 1) (nd x) ≤ i := Nat.le_trans (ndb_mono (by omega)) h
       have hw : ∀ y : Ex, nd y ≤ i → ndb y 6 (nd y) ≤ i + 1 := fun y hy => by unfold ndb; split <;> omega
       split
       ·exact hw _ (by show max (ndb (leafX _) _ (nd (leafX _))) (ndb x _ (nd x)) ≤ _; rw [nd_leaf _ _ (by omega)]; omega)
       ·exact hw _ (by show max (ndb x _ (nd x)) (ndb (leafX _) _ (nd (leafX _))) ≤ _; rw [nd_leaf _ _ (by omega)]; omega)
theorem sp_leaf (n : Nat) : (sp (toks0 (leafX n))).length ≤ 4 := by
 unfold leafX
 split
 ·decide
 ·split
  ·have e : toks0 (.val ⟨1, ((n % 100 : Nat) : Int), []⟩) = [tn ((n % 100 : Nat) : Int)] := rfl
   have hd : (decL ((n % 100 : Nat) : Int)).length ≤ 2 := by
    rw [decL, if_neg (by omega)]
    exact digN_len 1 _ (by omega)
   rw [e, sp_cons, sp_nil]
   simp only [List.length_append, List.length_cons, List.length_nil, tn]
   omega
  ·decide
theorem sp_br (x : Ex) (k : Nat) : (sp (br x k (toks0 x))).length ≤ (sp (toks0 x)).length + 4 := by
 unfold br
 split
 ·rw [sp_brk]; simp
 ·omega
theorem signS_len (op : Nat) : (signS op).length ≤ 2 := by
 unfold signS
 split <;> decide
theorem stepX_sp (x : Ex) (n : Nat) : (sp (toks0 (stepX x n))).length ≤ (sp (toks0 x)).length + 40 := by
 have hb := sp_br x
 have hl := sp_leaf (n / 18)
 have hl2 := sp_leaf (n / 36)
 have hlb := sp_br (leafX (n / 36))
 unfold stepX
 split
 ·have := hb 6
  rw [toks0, sp_cons]; simp [tg]; try omega
 ·split
  ·have := hb 6
   rw [toks0, sp_cons]; simp [tg]; try omega
  ·split
   ·rw [toks0]; simp [sp_cons, sp_app, sp_nil, tg, tw]; try omega
   ·split
    ·rw [toks0]; simp [sp_cons, sp_app, sp_nil, tg, tw, w_has]; try omega
    ·split
     ·rw [toks0]; simp [sp_cons, sp_app, sp_nil, tg, tw, w_sum]; try omega
     ·split
      ·rw [toks0]; simp [sp_cons, sp_app, sp_nil, tg, tw, w_count]; try omega
      ·have hs := signS_len (n % 18 - 5)
       split
       ·have h1 := hb (lvlS (n % 18 - 5) + 1)
        have h2 := hlb (lvlS (n % 18 - 5))
        rw [toks0]; simp [sp_cons, sp_app, tg]; omega
       ·have h1 := hb (lvlS (n % 18 - 5))
        have h2 := hlb (lvlS (n % 18 - 5) + 1)
        rw [toks0]; simp [sp_cons, sp_app, tg]; omega
theorem fold_ok : ∀ (l : List Nat) (x : Ex) (i : Nat), okX x → ndb x 6 (nd x) ≤ i → (okX (l.foldl stepX x) ∧ ndb (l.foldl stepX x) 6 (nd (l.foldl stepX x)) ≤ i + l.length) ∧ (sp (toks0 (l.foldl stepX x))).length ≤ (sp (toks0 x)).length + 40 * l.length
 | [], x, i, h, h2 => ⟨⟨h, by simpa using h2⟩, by simp⟩
 | n :: l, x, i, h, h2 => by
  obtain ⟨⟨h3, h4⟩, h5⟩ := fold_ok l (stepX x n) (i + 1) (stepX_ok h n) (stepX_nd h2 n)
  have := stepX_sp x n
  refine ⟨⟨h3, ?_⟩, ?_⟩
  ·rw [List.length_cons]
   show ndb (l.foldl stepX (stepX x n)) 6 (nd (l.foldl stepX (stepX x n))) ≤ _
   omega
  rw [List.length_cons]
  show (sp (toks0 (l.foldl stepX (stepX x n)))).length ≤ _
  omega
theorem growX_ok (l : List Nat) : (okX (growX l) ∧ nd (growX l) ≤ 8) ∧ (sp (toks0 (growX l))).length ≤ 400 := by
 obtain ⟨⟨h1, h2⟩, h3⟩ := fold_ok (l.take 8) (leafX l.length) 0 (leafX_ok _) (by rw [nd_leaf _ _ (by omega)]; exact Nat.le_refl _)
 have := sp_leaf l.length
 have h8 : (l.take 8).length ≤ 8 := by simp; omega
 exact ⟨⟨h1, Nat.le_trans ndb_ge (Nat.le_trans h2 (by omega))⟩, by unfold growX; omega⟩
theorem toks0_ne (x : Ex) : toks0 x ≠ [] := by
 cases x with
 | bin op a b =>
  rw [toks0]
  intro h
  have := congrArg List.length h
  simp at this
 | _ => rw [toks0]; simp
theorem sp_text : ∀ {l : List Tok}, l ≠ [] → sp l = textOf l ++ [32]
 | [], h => absurd rfl h
 | [t], _ => by rw [sp_cons, sp_nil]; rfl
 | t :: u :: r, _ => by
  rw [sp_cons, sp_text (l := u :: r) (by simp)]
  show t.2.1 ++ 32 :: (textOf (u :: r) ++ [32]) = (t.2.1 ++ 32 :: textOf (u :: r)) ++ [32]
  simp
def kE (a b : Ex) : Wk := ⟨[], [⟨[112], [⟨[120], 1, 0⟩], .cons (.let_ [121] a) (.cons (.put [116] [99] b (.var [121])) .nil)⟩]⟩
theorem kE_ok {a b : Ex} (ha : okX a ∧ nd a ≤ 8) (hb : okX b ∧ nd b ≤ 8) : okW (kE a b) := by
 refine ⟨⟨by simp [kE], fun t ht => by cases ht⟩, ⟨by simp [kE], fun p hp => ?_⟩⟩
 simp only [kE, List.mem_singleton] at hp
 subst hp
 refine ⟨(by decide : isNameL [112] = true), ⟨(by simp), fun c hc => ?_⟩, ?_⟩
 ·simp only [List.mem_singleton] at hc
  subst hc
  exact ⟨by decide, .inl ⟨rfl, rfl⟩⟩
 ·have hn : nd (.var [121]) = 0 := rfl
  refine ⟨⟨?_, (show 2 ≤ 24 by omega)⟩, ?_⟩
  ·rw [okB, okB, okB, okS, okS]
   exact ⟨⟨by decide, ha.1⟩, ⟨by decide, by decide, hb.1, (by decide : isNameL [121] = true)⟩, trivial⟩
  ·rw [ndB, ndB, ndB, ndS, ndS, hn]
   omega
def u1E : List UInt8 := [112, 114, 111, 99, 32, 112, 32, 40, 32, 120, 32, 105, 110, 116, 32, 41, 32, 123, 32, 108, 101, 116, 32, 121, 32, 61, 32]
def u2E : List UInt8 := [32, 59, 32, 116, 32, 91, 32]
def u3E : List UInt8 := [32, 93, 32, 46, 32, 99, 32, 61, 32, 121, 32, 59, 32, 125]
theorem kE_text (a b : Ex) : joinB ((toksW (kE a b)).map (·.2.1)) = u1E ++ textOf (toks0 a) ++ u2E ++ textOf (toks0 b) ++ u3E := by
 have e : toksW (kE a b) = ([tw w_proc, tw [112], tg [40], tw [120], tw w_int, tg [41], tg [123], tw w_let, tw [121], tg [61]] ++ toks0 a) ++ (([tg [59], tw [116], tg [91]] ++ toks0 b) ++ [tg [93], tg [46], tw [99], tg [61], tw [121], tg [59], tg [125]]) := by
  simp [toksW, kE, toksP, toksPs, toksC, toksT, toksB, toksS, toks0]
 have ha := toks0_ne a
 have hb := toks0_ne b
 have hm : ∀ l : List Tok, l ≠ [] → l.map (·.2.1) ≠ [] := fun l h => by simpa using h
 rw [e, List.map_append, List.map_append, List.map_append, List.map_append]
 rw [joinB_app _ _ (by simp) (by simp), joinB_app _ _ (by simp) (hm _ ha), joinB_app _ _ (by simp) (by simp), joinB_app _ _ (by simp) (hm _ hb)]
 have e1 : joinB (List.map (·.2.1) [tw w_proc, tw [112], tg [40], tw [120], tw w_int, tg [41], tg [123], tw w_let, tw [121], tg [61]]) = [112, 114, 111, 99, 32, 112, 32, 40, 32, 120, 32, 105, 110, 116, 32, 41, 32, 123, 32, 108, 101, 116, 32, 121, 32, 61] := by decide
 have e2 : joinB (List.map (·.2.1) [tg [59], tw [116], tg [91]]) = [59, 32, 116, 32, 91] := by decide
 have e3 : joinB (List.map (·.2.1) [tg [93], tg [46], tw [99], tg [61], tw [121], tg [59], tg [125]]) = [93, 32, 46, 32, 99, 32, 61, 32, 121, 32, 59, 32, 125] := by decide
 rw [e1, e2, e3]
 show (_ ++ 32 :: textOf (toks0 a)) ++ 32 :: ((_ ++ 32 :: textOf (toks0 b)) ++ 32 :: _) = _
 simp [u1E, u2E, u3E]
theorem kE_spread {a b : Ex} (ha : okX a ∧ nd a ≤ 8) (hb : okX b ∧ nd b ≤ 8) : Spread (toksW (kE a b)) (u1E ++ textOf (toks0 a) ++ u2E ++ textOf (toks0 b) ++ u3E) := by
 rw [← kE_text]
 exact spread_joinB _ (toksW_ok (kE_ok ha hb))
end Go.Proofs.YtnbmpfdffoidaaaGreat.Y
namespace Go.Proofs.YtnbmpfdffoidaaaGreat.Y
open Go.RowKit O V S X
def PSame (x : Ex) : Prop := ∀ (y : Ex) (A B : Option Addr) (c c' : Nat) (p q r p' q' r' : Int) (S S' : Nat → Prop) (w : World), ExAt w S x A c → ExAt w S' y B c' → (∀ b, S b → b < w.heap.size) → (∀ b, S' b → b < w.heap.size) →
 Calls Tryz.prog 13 #[exX x A c p q r, exX y B c' p' q' r'] w fun e w' => RetQ (x = y) e ∧ Below w.heap.size w w'
def EqR (l : List Ex) : Prop := ∀ (m : List Ex) (A B : Option Addr) (c c' : Nat) (S S' : Nat → Prop) (w : World), RX w S A c l → RX w S' B c' m → (∀ b, S b → b < w.heap.size) → (∀ b, S' b → b < w.heap.size) → l.length ≤ 1000000 → m.length ≤ 1000000 →
 Calls Tryz.prog 27 #[.slice A l.length c, .slice B m.length c', .func (.func 13) #[] #[]] w fun e w' => RetQ (l = m) e ∧ Below w.heap.size w w'
theorem veql_no {x y : Val} (h : x ≠ y) (w : World) : (binOp .eql 40 (.agg #[.int .i64 x.k, .int .i64 x.n, .string ⟨x.s.toArray⟩]) (.agg #[.int .i64 y.k, .int .i64 y.n, .string ⟨y.s.toArray⟩])).run Tryz.prog w = .ok (.bool false) w := by
 go_simp
 exact fun h1 h2 h3 => h (V.Val.same h1 h2 h3)
theorem veql_yes (x : Val) (w : World) : (binOp .eql 40 (.agg #[.int .i64 x.k, .int .i64 x.n, .string ⟨x.s.toArray⟩]) (.agg #[.int .i64 x.k, .int .i64 x.n, .string ⟨x.s.toArray⟩])).run Tryz.prog w = .ok (.bool true) w := by
 go_simp
theorem seql_no {x y : List UInt8} (h : x ≠ y) (w : World) : (binOp .eql 9 (.string ⟨x.toArray⟩) (.string ⟨y.toArray⟩)).run Tryz.prog w = .ok (.bool false) w := by
 go_simp
theorem seql_yes (x : List UInt8) (w : World) : (binOp .eql 9 (.string ⟨x.toArray⟩) (.string ⟨x.toArray⟩)).run Tryz.prog w = .ok (.bool true) w := by
 go_simp
theorem psame_step (x : Ex) (ih : EqR (parts x)) : PSame x := by
 intro y A B c c' p q r p' q' r' S S' w h1 h2 hS hS'
 have hih := Lib.hid ih
 have G1 := Lib.hid h1
 have G2 := Lib.hid h2
 have HS := Lib.hid hS
 have HS' := Lib.hid hS'
 have hL1 := parts_len x
 have hL2 := parts_len y
 have hx := ex_ext (x := x) (y := y)
 have HNO : Hid (¬ (((hdK x = hdK y ∧ hdV x = hdV y) ∧ (hdN x = hdN y ∧ hdC x = hdC y) ∧ hdO x = hdO y) ∧ parts x = parts y) → x ≠ y) := Lib.hid fun h e => h (hx.1 e)
 have HYES : Hid (((hdK x = hdK y ∧ hdV x = hdV y) ∧ (hdN x = hdN y ∧ hdC x = hdC y) ∧ hdO x = hdO y) ∧ parts x = parts y → x = y) := Lib.hid fun h => hx.2 h
 clear ih h1 h2 hS hS' hx
 have g1 := G1.out.ex
 have g2 := G2.out.ex
 have K1 : Hid (RX w S A c (parts x)) := Lib.hid g1
 have K2 : Hid (RX w S' B c' (parts y)) := Lib.hid g2
 clear g1 g2 G1 G2
 show Calls _ _ #[exVal _ _ _ _ _ _ _ _ _ _ _, exVal _ _ _ _ _ _ _ _ _ _ _] _ _
 generalize hdK x = xk at *
 generalize hdV x = xv at *
 generalize hdN x = xn at *
 generalize hdC x = xc at *
 generalize hdO x = xo at *
 generalize hdK y = yk at *
 generalize hdV y = yv at *
 generalize hdN y = yn at *
 generalize hdC y = yc at *
 generalize hdO y = yo at *
 generalize parts x = xl at *
 generalize parts y = yl at *
 by_cases e0 : xk = yk
 ·subst e0
  by_cases e1 : xv = yv
  ·subst e1
   have s1 := fun w => veql_yes xv w
   by_cases e2 : xn = yn
   ·subst e2
    have s2 := fun w => seql_yes xn w
    by_cases e3 : xc = yc
    ·subst e3
     have s3 := fun w => seql_yes xc w
     by_cases e4 : xo = yo
     ·subst e4
      go_enter Tryz.func13, Tryz.ntmps13
      go_wp2_with fail
      refine (hih.out yl A B c c' S S' _ (K1.out.keep fun b hB => ?_) (K2.out.keep fun b hB => ?_) (fun b hB => ?_) (fun b hB => ?_) (by omega) (by omega)).mono ?_
      ·exact ((Below.refl w.heap.size w).alloc (Nat.le_refl _) _ |>.alloc (by simp) _).block b (HS.out b hB)
      ·exact ((Below.refl w.heap.size w).alloc (Nat.le_refl _) _ |>.alloc (by simp) _).block b (HS'.out b hB)
      ·have := HS.out b hB; simp; omega
      ·have := HS'.out b hB; simp; omega
      rintro e w5 ⟨⟨bb, rfl, hbb⟩, b5⟩
      have HBB := Lib.hid hbb
      clear hbb
      have B5 : Below w.heap.size w w5 := bthen (by repeat (first | exact Below.refl _ _ | refine Below.alloc ?_ (by first | omega | (simp <;> omega)) _)) b5
      go_wp2_with fail
      go_ret
      refine ⟨⟨bb, rfl, ?_⟩, B5⟩
      constructor
      ·intro h
       exact HYES.out (by simpa using HBB.out.1 h)
      ·intro h
       refine HBB.out.2 ?_
       apply Classical.byContradiction
       intro hc
       exact HNO.out (by simpa using hc) h
     ·have d4 : ((xo : Int) == (yo : Int)) = false := by simp; omega
      go_enter Tryz.func13, Tryz.ntmps13
      go_wp2_with fail
      go_ret
      refine ⟨⟨false, rfl, ?_⟩, ?_⟩
      ·have := HNO.out (fun h => e4 h.1.2.2)
       simp [this]
      ·repeat (first | (with_reducible exact Below.refl _ _) | (with_reducible assumption) | refine Below.setCell ?_ (by simp <;> omega) _ | refine Below.alloc ?_ (by simp <;> omega) _ | refine Below.drew ?_)
    ·have s3 := fun w => seql_no e3 w
     go_enter Tryz.func13, Tryz.ntmps13
     go_wp2_with fail
     go_ret
     refine ⟨⟨false, rfl, ?_⟩, ?_⟩
     ·have := HNO.out (fun h => e3 h.1.2.1.2)
      simp [this]
     ·repeat (first | (with_reducible exact Below.refl _ _) | (with_reducible assumption) | refine Below.setCell ?_ (by simp <;> omega) _ | refine Below.alloc ?_ (by simp <;> omega) _ | refine Below.drew ?_)
   ·have s2 := fun w => seql_no e2 w
    go_enter Tryz.func13, Tryz.ntmps13
    go_wp2_with fail
    go_ret
    refine ⟨⟨false, rfl, ?_⟩, ?_⟩
    ·have := HNO.out (fun h => e2 h.1.2.1.1)
     simp [this]
    ·repeat (first | (with_reducible exact Below.refl _ _) | (with_reducible assumption) | refine Below.setCell ?_ (by simp <;> omega) _ | refine Below.alloc ?_ (by simp <;> omega) _ | refine Below.drew ?_)
  ·have s1 := fun w => veql_no e1 w
   go_enter Tryz.func13, Tryz.ntmps13
   go_wp2_with fail
   go_ret
   refine ⟨⟨false, rfl, ?_⟩, ?_⟩
   ·have := HNO.out (fun h => e1 h.1.1.2)
    simp [this]
   ·repeat (first | (with_reducible exact Below.refl _ _) | (with_reducible assumption) | refine Below.setCell ?_ (by simp <;> omega) _ | refine Below.alloc ?_ (by simp <;> omega) _ | refine Below.drew ?_)
 ·have d0 : (xk == yk) = false := by simpa using e0
  go_enter Tryz.func13, Tryz.ntmps13
  go_wp2_with fail
  go_ret
  refine ⟨⟨false, rfl, ?_⟩, ?_⟩
  ·have := HNO.out (fun h => e0 h.1.1.1)
   simp [this]
  ·repeat (first | (with_reducible exact Below.refl _ _) | (with_reducible assumption) | refine Below.setCell ?_ (by simp <;> omega) _ | refine Below.alloc ?_ (by simp <;> omega) _ | refine Below.drew ?_)
theorem eqr_step (l : List Ex) (ih : ∀ x ∈ l, PSame x) : EqR l := by
 intro m A B c c' S S' w h1 h2 hS hS' hl hm
 have HIH := Lib.hid ih
 clear ih
 have hc1 := Tryz.call13
 by_cases hne : l.length = m.length
 ·obtain ⟨n, hn⟩ : ∃ n, l.length = n := ⟨_, rfl⟩
  have hn2 : m.length = n := by omega
  have HN := Lib.hid hn
  have HN2 := Lib.hid hn2
  rw [hn, hn2]
  rw [hn] at hl
  clear hn hn2 hm hne
  have H1 := Lib.hid h1
  have H2 := Lib.hid h2
  have HS := Lib.hid hS
  have HS' := Lib.hid hS'
  clear h1 h2 hS hS'
  go_enter Tryz.func27, Tryz.ntmps27
  go_wp2_with fail
  go_loopw [6, 17] (fun _ i wr => ∃ k : Nat, k ≤ n ∧ i = .int .i64 k ∧ Hid (l.take k = m.take k) ∧ Below w.heap.size w wr) (fun _ i _ => n - (intOf i).toNat)
  case atStart => exact ⟨0, by omega, rfl, Lib.hid (by simp), Below.refl _ _⟩
  case round =>
   obtain ⟨k, hk, rfl, H, hb⟩ := hrel
   by_cases hlt : k < n
   ·have hlt' : k < l.length := by rw [HN.out]; exact hlt
    have hlt2 : k < m.length := by rw [HN2.out]; exact hlt
    have hki : (k : Int) < (n : Int) := by omega
    obtain ⟨b1, off1, A1, c1, p1, q1, r1, rfl, hb1, hc1', g1⟩ := (H1.out.keep (w' := wr) fun b hB => hb.block b (HS.out b hB)).at_ HS.out hlt'
    obtain ⟨b2, off2, A2, c2, p2, q2, r2, rfl, hb2, hc2, g2⟩ := (H2.out.keep (w' := wr) fun b hB => hb.block b (HS'.out b hB)).at_ HS'.out hlt2
    have hst := Lib.hid (take_same hlt' hlt2 H.out)
    have hno := Lib.hid (ne_at hlt' hlt2)
    have hih := Lib.hid (HIH.out _ (List.getElem_mem hlt'))
    have G1 : Hid (ExAt wr S l[k] A1 c1) := Lib.hid ⟨g1⟩
    have G2 : Hid (ExAt wr S' m[k] A2 c2) := Lib.hid ⟨g2⟩
    clear g1 g2
    have hz := hb.size
    have hbw1 : b1 < wr.heap.size := by omega
    have hbw2 : b2 < wr.heap.size := by omega
    generalize l[k] = x at *
    generalize m[k] = y at *
    have xy0 : wr.cell? ⟨b1, off1 + k * 11, none⟩ = some (nv (hdK x)) := hc1' 0 (by omega)
    have xy1 : wr.cell? ⟨b1, off1 + k * 11 + 1, none⟩ = some (nv (hdV x).k) := hc1' 1 (by omega)
    have xy2 : wr.cell? ⟨b1, off1 + k * 11 + 2, none⟩ = some (nv (hdV x).n) := hc1' 2 (by omega)
    have xy3 : wr.cell? ⟨b1, off1 + k * 11 + 3, none⟩ = some (sv (hdV x).s) := hc1' 3 (by omega)
    have xy4 : wr.cell? ⟨b1, off1 + k * 11 + 4, none⟩ = some (sv (hdN x)) := hc1' 4 (by omega)
    have xy5 : wr.cell? ⟨b1, off1 + k * 11 + 5, none⟩ = some (sv (hdC x)) := hc1' 5 (by omega)
    have xy6 : wr.cell? ⟨b1, off1 + k * 11 + 6, none⟩ = some (nv (hdO x : Nat)) := hc1' 6 (by omega)
    have xy7 : wr.cell? ⟨b1, off1 + k * 11 + 7, none⟩ = some (.slice A1 (parts x).length c1) := hc1' 7 (by omega)
    have xy8 : wr.cell? ⟨b1, off1 + k * 11 + 8, none⟩ = some (nv p1) := hc1' 8 (by omega)
    have xy9 : wr.cell? ⟨b1, off1 + k * 11 + 9, none⟩ = some (nv q1) := hc1' 9 (by omega)
    have xy10 : wr.cell? ⟨b1, off1 + k * 11 + 10, none⟩ = some (nv r1) := hc1' 10 (by omega)
    have yy0 : wr.cell? ⟨b2, off2 + k * 11, none⟩ = some (nv (hdK y)) := hc2 0 (by omega)
    have yy1 : wr.cell? ⟨b2, off2 + k * 11 + 1, none⟩ = some (nv (hdV y).k) := hc2 1 (by omega)
    have yy2 : wr.cell? ⟨b2, off2 + k * 11 + 2, none⟩ = some (nv (hdV y).n) := hc2 2 (by omega)
    have yy3 : wr.cell? ⟨b2, off2 + k * 11 + 3, none⟩ = some (sv (hdV y).s) := hc2 3 (by omega)
    have yy4 : wr.cell? ⟨b2, off2 + k * 11 + 4, none⟩ = some (sv (hdN y)) := hc2 4 (by omega)
    have yy5 : wr.cell? ⟨b2, off2 + k * 11 + 5, none⟩ = some (sv (hdC y)) := hc2 5 (by omega)
    have yy6 : wr.cell? ⟨b2, off2 + k * 11 + 6, none⟩ = some (nv (hdO y : Nat)) := hc2 6 (by omega)
    have yy7 : wr.cell? ⟨b2, off2 + k * 11 + 7, none⟩ = some (.slice A2 (parts y).length c2) := hc2 7 (by omega)
    have yy8 : wr.cell? ⟨b2, off2 + k * 11 + 8, none⟩ = some (nv p2) := hc2 8 (by omega)
    have yy9 : wr.cell? ⟨b2, off2 + k * 11 + 9, none⟩ = some (nv q2) := hc2 9 (by omega)
    have yy10 : wr.cell? ⟨b2, off2 + k * 11 + 10, none⟩ = some (nv r2) := hc2 10 (by omega)
    clear hc1' hc2 H
    go_wp2_with fail
    refine (hih.out y A1 A2 c1 c2 p1 q1 r1 p2 q2 r2 S S' _ (G1.out.keep fun b hB => ?_) (G2.out.keep fun b hB => ?_) (fun b hB => ?_) (fun b hB => ?_)).mono ?_
    ·exact ((Below.refl wr.heap.size wr).alloc (Nat.le_refl _) _ |>.alloc (by simp) _).block b (by have := HS.out b hB; omega)
    ·exact ((Below.refl wr.heap.size wr).alloc (Nat.le_refl _) _ |>.alloc (by simp) _).block b (by have := HS'.out b hB; omega)
    ·have := HS.out b hB; simp; omega
    ·have := HS'.out b hB; simp; omega
    rintro e w5 ⟨⟨bb, rfl, hbb⟩, b5⟩
    have HBB := Lib.hid hbb
    clear hbb
    have B5 : Below w.heap.size w w5 := bthen (by repeat (first | (with_reducible exact hb) | refine Below.alloc ?_ (by first | omega | (simp <;> omega)) _)) b5
    cases bb with
    | false =>
     go_wp2_with fail
     go_ret
     refine ⟨⟨false, rfl, ?_⟩, B5⟩
     have := hno.out (fun e => by have := HBB.out.2 e; cases this)
     simp [this]
    | true =>
     go_wp2_with fail
     go_roundw
     case rel => exact ⟨k + 1, by omega, by go_num, Lib.hid (hst.out (HBB.out.1 (by trivial))), B5⟩
     case measure => simp [intOf]; omega
   ·obtain rfl : k = n := by omega
    have hall : l = m := by
     have := H.out
     rwa [List.take_of_length_le (by rw [HN.out]; exact Nat.le_refl _), List.take_of_length_le (by rw [HN2.out]; exact Nat.le_refl _)] at this
    go_wp2_with fail
    go_ret
    exact ⟨⟨true, rfl, by simp [hall]⟩, hb⟩
 ·have hr : Hid (l ≠ m) := Lib.hid (fun e => hne (by rw [e]))
  have d1 : ((l.length : Int) != (m.length : Int)) = true := by simp; omega
  clear h1 h2
  go_enter Tryz.func27, Tryz.ntmps27
  go_wp2_with fail
  go_ret
  exact ⟨⟨false, rfl, by simp [hr.out]⟩, Below.refl _ _⟩
theorem psame_any : ∀ x : Ex, PSame x := Ex.ind fun x ih => psame_step x (eqr_step _ ih)
end Go.Proofs.YtnbmpfdffoidaaaGreat.Y
