/- Texts of the proof, joined: SynLives, SynWrd. -/
import Derived.Test.YtnbmpfdffoidaaaGreatDoorBk09
import Derived.Test.YtnbmpfdffoidaaaGreatDoorBk12
import Derived.Test.YtnbmpfdffoidaaaGreatDoorBk28
set_option linter.unusedVariables false
set_option linter.unusedSimpArgs false
set_option maxHeartbeats 8000000
set_option maxRecDepth 100000
namespace Go.Proofs.YtnbmpfdffoidaaaGreatDoor.Y
open Go.RowKit O V S X
theorem parse_spread {k : Wk} (hk : okW k) {u : List UInt8} (hu : Spread (toksW k) u) {l : List Tok} {er0 : Int} {o : Nat} (h : LexU u l er0 o) : er0 = 0 ∧ parseT l = .ok k [] := by
 obtain ⟨e1, e2, _⟩ := h.det hu.lex
 subst e1 e2
 refine ⟨rfl, ?_⟩
 refine (backW hk).now (p := fun f => pWork f (toksW k)) (fun f => work_le f _) fun ho => ?_
 have := work_snd (f := 4 * (toksW k).length + 8) (Y.LexU.z h).1.w (Nat.le_refl _)
 rw [ho] at this
 exact this
theorem parse_back (k : Wk) (hk : okW k) (u : List UInt8) (hu : Spread (toksW k) u) (w : World) (hs : u.length ≤ 16384) :
  Calls Tryz.prog 5 #[.string ⟨u.toArray⟩] w fun e w' => (∃ v p q r S, e = .returned (.tuple #[v, nv 0, .agg #[nv p, nv q, nv r]]) ∧ WkR w' S k v ∧ In w.heap.size w' S) ∧ Below w.heap.size w w' := by
 refine (parse_any u w hs).mono ?_
 rintro e w' ⟨⟨v, er, p, q, r, l, o, er0, rfl, hl, _, h2⟩, b⟩
 obtain ⟨e0, hp⟩ := parse_spread hk hu hl
 have h2 := h2 e0
 rw [hp] at h2
 obtain ⟨rfl, S, h3, h4⟩ := h2
 exact ⟨⟨v, p, q, r, S, rfl, h3, h4⟩, b⟩
def x0L : Ex := .bin 8 (.bin 8 (.var [97]) (.var [98])) (.bin 10 (.var [99]) (.val ⟨1, 2, []⟩))
def k0L : Wk := ⟨[], [⟨[112], [], .cons (.emit x0L) .nil⟩]⟩
theorem k0_ok : okW k0L := by
 have h : ∀ c : List UInt8, isNameL c = true → isNameL c = true := fun _ h => h
 refine ⟨⟨by simp [k0L], fun t ht => by cases ht⟩, ⟨by simp [k0L], fun p hp => ?_⟩⟩
 simp only [k0L, List.mem_singleton] at hp
 subst hp
 refine ⟨by decide, ⟨by simp, fun c hc => by cases hc⟩, ?_⟩
 refine ⟨⟨?_, by decide⟩, by decide⟩
 rw [okB, okB, okS]
 refine ⟨⟨by omega, ⟨by omega, ?_, ?_⟩, by omega, ?_, ?_⟩, trivial⟩
 ·show isNameL [97] = true; decide
 ·show isNameL [98] = true; decide
 ·show isNameL [99] = true; decide
 ·exact ⟨by decide, fun _ => by decide⟩
theorem k0_okx : okX x0L := by
 have := (k0_ok.p.2 ⟨[112], [], .cons (.emit x0L) .nil⟩ (by simp [k0L])).b.1.1
 rw [okB, okS] at this
 exact this.1
def u0L : List UInt8 := [112, 114, 111, 99, 32, 112, 32, 40, 32, 41, 32, 123, 32, 101, 109, 105, 116, 32, 97, 32, 45, 32, 98, 32, 45, 32, 99, 32, 42, 32, 50, 32, 59, 32, 125]
theorem dec2 : decL 2 = [50] := by
 unfold decL
 rw [if_neg (by omega)]
 show digN 2 = _
 rw [digN_lt (by omega)]
 rfl
theorem u0_text : joinB ((toksW k0L).map (·.2.1)) = u0L := by
 have e : toksW k0L = [tw w_proc, tw [112], tg [40], tg [41], tg [123], tw w_emit, tw [97], tg [45], tw [98], tg [45], tw [99], tg [42], tv ⟨1, 2, []⟩, tg [59], tg [125]] := by
  simp [toksW, k0L, toksP, toksPs, toksB, toksS, x0L, toks0, br, lvlX, lvlS, signS]
 rw [e]
 have e2 : tv ⟨1, 2, []⟩ = tn 2 := rfl
 rw [e2]
 show joinB [w_proc, [112], [40], [41], [123], w_emit, [97], [45], [98], [45], [99], [42], decL 2, [59], [125]] = _
 rw [dec2]
 rfl
theorem u0_spread : Spread (toksW k0L) u0L := by rw [← u0_text]; exact spread_joinB _ (toksW_ok k0_ok)
theorem live_mem {w : World} {S : Nat → Prop} {v : Value} {B : Nat} (h : WkR w S k0L v) (hS : ∀ b, S b → b < B) :
  ∃ A c b1 o1 d b2 o2 d2 b3 o3 d3 b4 o4 d4, ∃ p q r p1 q1 r1 p2 q2 r2 : Int, ∃ A1 c1 A2 c2, (v = .agg #[.slice A 0 c, .slice (some ⟨b1, o1, none⟩) 1 d] ∧ (b1 < B ∧ b2 < B) ∧ b3 < B ∧ b4 < B) ∧
   w.cell? ⟨b1, o1 + 2, none⟩ = some (.slice (some ⟨b2, o2, none⟩) 1 d2) ∧ w.cell? ⟨b2, o2 + 5, none⟩ = some (.slice (some ⟨b3, o3, none⟩) 1 d3) ∧
   (∀ j, j < 11 → w.cell? ⟨b3, o3 + j, none⟩ = (exC x0L (.slice (some ⟨b4, o4, none⟩) 2 d4) p q r)[j]?) ∧ ExAt w S x0L (some ⟨b4, o4, none⟩) d4 ∧
   (∀ j, j < 11 → w.cell? ⟨b4, o4 + j, none⟩ = (exC (.bin 8 (.var [97]) (.var [98])) (.slice A1 2 c1) p1 q1 r1)[j]?) ∧
   (∀ j, j < 11 → w.cell? ⟨b4, o4 + 11 + j, none⟩ = (exC (.bin 10 (.var [99]) (.val ⟨1, 2, []⟩)) (.slice A2 2 c2) p2 q2 r2)[j]?) := by
 obtain ⟨A, c, es, B1, d, fs, rfl, _, h1, h2⟩ := h
 obtain ⟨b1, o1, vs, e1, hb1, ⟨Ap, cp, eps, B2, d2, bs, pp, pq, pr, rfl, _, h3, h4⟩, hc1⟩ := (h1.rd hS).elem PcR.size h2 (i := 0) (by simp [k0L]) (by omega)
 subst e1
 simp only [Nat.zero_mul, Nat.add_zero] at hc1
 have h4' := (StsR_reps _ _).1 h4
 obtain ⟨b2, o2, vs2, e2, hb2, hst, hc2⟩ := (h3.rd hS).elem StR.size h4' (i := 0) (by simp [k0L, Sts.list]) (by omega)
 subst e2
 simp only [Nat.zero_mul, Nat.add_zero] at hc2
 have hst : StR w S (.emit x0L) vs2 := hst
 obtain ⟨A3, c3, es3, B3, d3, bs3, E3, f3, fs3, p3, q3, r3, rfl, ⟨h5, h6⟩, _⟩ := (StR_eq _ _).1 hst
 obtain ⟨b3, o3, vs3, e3, hb3, hx, hc3⟩ := (h5.rd hS).elem ExR.size h6 (i := 0) (by simp [stA]) (by omega)
 subst e3
 simp only [Nat.zero_mul, Nat.add_zero] at hc3
 have hx : ExR w S x0L vs3 := hx
 obtain ⟨A4, d4, p, q, r, rfl, hat⟩ := ExAt.of hx
 obtain ⟨b4, o4, A1, c1, p1, q1, r1, e4, hb4, hc4, _⟩ := hat.part hS (i := 0) (by simp [x0L, parts])
 obtain ⟨b5, o5, A2, c2, p2, q2, r2, e5, _, hc5, _⟩ := hat.part hS (i := 1) (by simp [x0L, parts])
 subst e4
 injection e5 with e5
 injection e5 with e5 e6
 subst e5 e6
 refine ⟨A, c, b1, o1, d, b2, o2, d2, b3, o3, c3, b4, o4, d4, p, q, r, p1, q1, r1, p2, q2, r2, A1, c1, A2, c2, ⟨rfl, ⟨hb1, hb2⟩, hb3, hb4⟩, hc1 2 (by omega), hc2 5 (by omega), hc3, hat, ?_, ?_⟩
 ·intro j hj
  have := hc4 j hj
  simp only [Nat.zero_mul, Nat.add_zero] at this
  exact this
 ·intro j hj
  have := hc5 j hj
  simp only [Nat.one_mul] at this
  exact this
def t0L : List UInt8 := [97, 32, 45, 32, 98, 32, 45, 32, 99, 32, 42, 32, 50]
theorem t0_text : textOf (toks0 x0L) = t0L := by
 have e : toks0 x0L = [tw [97], tg [45], tw [98], tg [45], tw [99], tg [42], tv ⟨1, 2, []⟩] := by simp [x0L, toks0, br, lvlX, lvlS, signS]
 unfold textOf
 rw [e]
 have e2 : tv ⟨1, 2, []⟩ = tn 2 := rfl
 rw [e2]
 show joinB [[97], [45], [98], [45], [99], [42], decL 2] = _
 rw [dec2]
 rfl
theorem liveY_any (w : World) : Calls Tryz.prog 7 #[] w fun e w' => e = .returned (.bool true) ∧ Below w.heap.size w w' := by
 go_enter Tryz.func7, Tryz.ntmps7
 go_wp2_with fail
 refine (parse_back k0L k0_ok u0L u0_spread w (by decide)).mono ?_; rintro e w1 ⟨⟨v, pp, pq, pr, S, rfl, hk, hin⟩, b1⟩
 obtain ⟨A, c, g1, o1, d, g2, o2, d2, g3, o3, d3, g4, o4, d4, p, q, r, p1, q1, r1, p2, q2, r2, A1, c1, A2, c2, ⟨rfl, ⟨hg1, hg2⟩, hg3, hg4⟩, y1, y2, hc3, hat, hc4, hc5⟩ := live_mem hk (B := w1.heap.size) (fun b hb => (hin b hb).2)
 have HAT := Lib.hid hat
 have HIN := Lib.hid hin
 have B1 := Lib.hid b1
 clear hk hat hin b1
 have x0 : w1.cell? ⟨g3, o3, none⟩ = some (nv 8) := hc3 0 (by omega)
 have x1 : w1.cell? ⟨g3, o3 + 1, none⟩ = some (nv 0) := hc3 1 (by omega)
 have x2 : w1.cell? ⟨g3, o3 + 2, none⟩ = some (nv 0) := hc3 2 (by omega)
 have x3 : w1.cell? ⟨g3, o3 + 3, none⟩ = some (sv []) := hc3 3 (by omega)
 have x4 : w1.cell? ⟨g3, o3 + 4, none⟩ = some (sv []) := hc3 4 (by omega)
 have x5 : w1.cell? ⟨g3, o3 + 5, none⟩ = some (sv []) := hc3 5 (by omega)
 have x6 : w1.cell? ⟨g3, o3 + 6, none⟩ = some (nv 8) := hc3 6 (by omega)
 have x7 : w1.cell? ⟨g3, o3 + 7, none⟩ = some (.slice (some ⟨g4, o4, none⟩) 2 d4) := hc3 7 (by omega)
 have x8 : w1.cell? ⟨g3, o3 + 8, none⟩ = some (nv p) := hc3 8 (by omega)
 have x9 : w1.cell? ⟨g3, o3 + 9, none⟩ = some (nv q) := hc3 9 (by omega)
 have x10 : w1.cell? ⟨g3, o3 + 10, none⟩ = some (nv r) := hc3 10 (by omega)
 have z6 : w1.cell? ⟨g4, o4 + 6, none⟩ = some (nv 8) := hc4 6 (by omega)
 have z17 : w1.cell? ⟨g4, o4 + 11 + 6, none⟩ = some (nv 10) := hc5 6 (by omega)
 clear hc3 hc4 hc5
 go_upto_region 5 with fail
 obtain ⟨W, hW⟩ : ∃ W, ((w1.alloc (.cells #[.slice A 0 c, .slice (some ⟨g1, o1, none⟩) 1 d] 25)).alloc (.cells #[nv pp, nv pq, nv pr] 28)).alloc (.cells #[nv 8, nv 0, nv 0, sv [], sv [], sv [], nv 8, .slice (some ⟨g4, o4, none⟩) 2 d4, nv p, nv q, nv r] 59) = W := ⟨_, rfl⟩
 have bW : Below w1.heap.size w1 W := by rw [← hW]; repeat (first | exact Below.refl _ _ | refine Below.alloc ?_ (by first | omega | (simp <;> omega)) _)
 have BX : W.heap[w1.heap.size + 1 + 1]? = some (exB 8 0 0 [] [] [] 8 (.slice (some ⟨g4, o4, none⟩) 2 d4) p q r) := by rw [← hW]; exact alloc_at (by simp)
 replace z6 : W.cell? ⟨g4, o4 + 6, none⟩ = some (nv 8) := (bW.cell (p := ⟨g4, o4 + 6, none⟩) hg4).trans z6
 replace z17 : W.cell? ⟨g4, o4 + 11 + 6, none⟩ = some (nv 10) := (bW.cell (p := ⟨g4, o4 + 11 + 6, none⟩) hg4).trans z17
 have hat2 : ExAt W S x0L (some ⟨g4, o4, none⟩) d4 := HAT.out.keep fun b hb => bW.block b (HIN.out b hb).2
 have BW := Lib.hid (B1.out.trans (bW.mono B1.out.size))
 rw [hW]
 clear hW x0 x1 x2 x3 x4 x5 x6 x7 x8 x9 x10
 have HA2 := Lib.hid hat2
 have HS2 : Hid (∀ b, S b → b < W.heap.size) := Lib.hid fun b hb => Nat.lt_of_lt_of_le (HIN.out b hb).2 bW.size
 clear hat2 bW
 obtain ⟨⟨⟨⟨x0, x1⟩, x2, x3⟩, ⟨x4, x5⟩, x6, x7⟩, ⟨x8, x9⟩, x10⟩ := cells11 BX
 clear BX
 go_wp2_with fail
 refine (printExpr_any x0L k0_okx (some ⟨g4, o4, none⟩) d4 p q r S W HA2.out HS2.out (by decide) (by rw [t0_text]; decide)).mono ?_; rintro e w5 ⟨rfl, b5⟩
 rw [t0_text]
 go_wp2_with fail
 go_ret
 exact ⟨rfl, BW.out.trans (b5.mono BW.out.size)⟩
end Go.Proofs.YtnbmpfdffoidaaaGreatDoor.Y
namespace Go.Proofs.YtnbmpfdffoidaaaGreatDoor.Y
open O V S X
def tgl (c : UInt8) (q : Bool) : Bool := if c.toNat = 34 then !q else q
def wrd : List UInt8 → Bool → List UInt8 → List (List UInt8)
 | [], _, cur => [cur]
 | [c], q, cur => if q = true ∧ c.toNat = 92 then [cur ++ [c]] else if c.toNat = 32 ∧ tgl c q = false then [cur, []] else [cur ++ [c]]
 | c :: d :: r, q, cur => if q = true ∧ c.toNat = 92 then wrd r q (cur ++ [c, d]) else if c.toNat = 32 ∧ tgl c q = false then cur :: wrd (d :: r) (tgl c q) [] else wrd (d :: r) (tgl c q) (cur ++ [c])
theorem wrd_esc {c : UInt8} (h : c.toNat = 92) (l cur : List UInt8) : wrd (c :: l) true cur = wrd (l.drop 1) true (cur ++ c :: l.take 1) := by
 cases l with
 | nil => simp [wrd, h]
 | cons d r => simp [wrd, h]
theorem wrd_go {c : UInt8} {q : Bool} (h1 : ¬ (q = true ∧ c.toNat = 92)) (h2 : ¬ (c.toNat = 32 ∧ tgl c q = false)) (l cur : List UInt8) : wrd (c :: l) q cur = wrd l (tgl c q) (cur ++ [c]) := by
 cases l with
 | nil => rw [wrd, wrd, if_neg h1, if_neg h2]
 | cons d r => rw [wrd, if_neg h1, if_neg h2]
def Whole (t : List UInt8) : Prop := ∀ r cur, wrd (t ++ r) false cur = wrd r false (cur ++ t)
theorem whole_nil : Whole [] := fun r cur => by simp
theorem whole_cons {c : UInt8} {t : List UInt8} (h1 : c.toNat ≠ 34) (h2 : c.toNat ≠ 32) (h : Whole t) : Whole (c :: t) := fun r cur => by
 have e : tgl c false = false := by unfold tgl; rw [if_neg h1]
 rw [List.cons_append, wrd_go (by simp) (fun hh => h2 hh.1), e, h]
 simp
theorem whole_all : ∀ {t : List UInt8}, (∀ c ∈ t, c.toNat ≠ 34 ∧ c.toNat ≠ 32) → Whole t
 | [], _ => whole_nil
 | c :: t, h => whole_cons (h c (by simp)).1 (h c (by simp)).2 (whole_all fun x hx => h x (by simp [hx]))
theorem esc_len (c : UInt8) (s : List UInt8) : (escL (s ++ [c])).length = (escL s).length + (esc c).length := by
 simp [escL]
theorem quo_wrd : ∀ (n : Nat) (l : List UInt8), l.length ≤ n → ∀ (k : Nat) (q Q : Quo), quoS l k q = some Q → ∃ a c b, l = a ++ c :: b ∧ c.toNat = 34 ∧ Q.n = k + a.length ∧ (∀ m cur, wrd (a ++ c :: m) true cur = wrd m false (cur ++ a ++ [c])) ∧
  (Q.bad = none → (escL Q.s).length = (escL q.s).length + a.length)
 | _, [], _, k, q, Q, h => by cases h
 | n, [c], hn, k, q, Q, h => by
  unfold quoS at h
  split at h
  ·rename_i hc
   injection h with h
   subst h
   refine ⟨[], c, [], rfl, hc, by simp, fun m cur => ?_, fun _ => by simp⟩
   have e : tgl c true = false := by unfold tgl; rw [if_pos hc]; rfl
   rw [List.nil_append, wrd_go (by omega) (by omega), e]; simp
  ·cases h
 | 0, c :: d :: r, hn, k, q, Q, h => by simp at hn
 | n + 1, c :: d :: r, hn, k, q, Q, h => by
  simp only [List.length_cons] at hn
  unfold quoS at h
  split at h
  ·rename_i hc
   injection h with h
   subst h
   refine ⟨[], c, d :: r, rfl, hc, by simp, fun m cur => ?_, fun _ => by simp⟩
   have e : tgl c true = false := by unfold tgl; rw [if_pos hc]; rfl
   rw [List.nil_append, wrd_go (by omega) (by omega), e]; simp
  ·rename_i hc
   split at h
   ·rename_i h9
    obtain ⟨a, x, b, rfl, hx, hQ, hw, hl⟩ := quo_wrd n r (by omega) _ _ Q h
    refine ⟨c :: d :: a, x, b, rfl, hx, by simp; omega, fun m cur => ?_, fun hb => ?_⟩
    ·rw [List.cons_append, wrd_esc h9, List.cons_append]
     simp only [List.drop_succ_cons, List.drop_zero, List.take_succ_cons, List.take_zero]
     rw [hw]; simp
    ·have g := (quo_good _ _ (Nat.le_refl _) _ _ Q h hb).1
     have hq : (escC d = true) := by
      cases hqb : q.bad with
      | some k => simp [orE, hqb] at g
      | none =>
       simp only [orE, hqb] at g
       split at g
       ·cases g
       ·rename_i hh
        simp at hh
        exact hh.1
     rw [hl hb]
     simp only
     rw [esc_len]
     have : (esc d).length = 2 := by
      unfold escC at hq
      simp at hq
      rw [esc, if_pos hq]; rfl
     rw [this]
     simp; omega
   ·rename_i h9
    obtain ⟨a, x, b, e, hx, hQ, hw, hl⟩ := quo_wrd n (d :: r) (by simp; omega) _ _ Q h
    refine ⟨c :: a, x, b, by rw [List.cons_append, ← e], hx, by simp; omega, fun m cur => ?_, fun hb => ?_⟩
    ·have e2 : tgl c true = true := by unfold tgl; rw [if_neg hc]
     rw [List.cons_append, wrd_go (by omega) (by rw [e2]; simp), e2, hw]; simp
    ·rw [hl hb]
     simp only
     rw [esc_len]
     have : (esc c).length = 1 := by rw [esc, if_neg (by omega)]; rfl
     rw [this]
     simp; omega
theorem signL_1 (c : UInt8) : signL [c] = if one c.toNat then 1 else 0 := rfl
theorem signL_2 (c d : UInt8) (r : List UInt8) : signL (c :: d :: r) = if two c.toNat d.toNat then 2 else if one c.toNat then 1 else 0 := rfl
theorem signL_two {c : UInt8} {r : List UInt8} (hc : c.toNat ≠ 34) (h0 : signL (c :: r) ≠ 0) (h : signL (c :: r) = (c :: r).length) : ∀ x ∈ c :: r, x.toNat ≠ 34 ∧ x.toNat ≠ 32 := by
 cases r with
 | nil =>
  rw [signL_1] at h0
  intro x hx
  simp only [List.mem_singleton] at hx
  subst hx
  refine ⟨hc, fun e => ?_⟩
  rw [e] at h0
  exact h0 rfl
 | cons d r =>
  rw [signL_2] at h
  by_cases h1 : two c.toNat d.toNat = true
  ·rw [if_pos h1] at h
   have hr : r = [] := by
    cases r with
    | nil => rfl
    | cons _ _ => simp at h
   subst hr
   intro x hx
   unfold two at h1
   simp only [Bool.or_eq_true, Bool.and_eq_true, decide_eq_true_eq] at h1
   simp only [List.mem_cons, List.not_mem_nil, or_false] at hx
   rcases hx with rfl | rfl <;> omega
  ·rw [if_neg h1] at h
   simp only [List.length_cons] at h
   split at h <;> omega
theorem TokOk.whole {t : Tok} (h : TokOk t) : Whole t.2.1 ∧ t.2.1.length ≤ cw 0 t := by
 obtain ⟨k, s, v⟩ := t
 have hl := h.lex
 have hne := h.ne
 simp only at hl hne ⊢
 have hk : k ≠ 3 → s.length ≤ cw 0 (k, s, v) := fun hk => by unfold cw; rw [if_neg hk]; exact Nat.le_add_right _ _
 cases s with
 | nil => exact absurd rfl hne
 | cons c r =>
  rw [tokL_cons] at hl
  have run (p : UInt8 → Bool) (e : runLen p (c :: r) = (c :: r).length) : (c :: r).all p = true := by
   have := run_all p (c :: r)
   rw [e, List.take_of_length_le (Nat.le_refl _)] at this
   exact this
  split at hl
  ·split at hl
   ·injection hl with h1 _ _ _ _; cases h1
   ·injection hl with _ _ h3 h4 _
    refine ⟨whole_all fun x hx => ?_, hk (by omega)⟩
    have := List.all_eq_true.1 (run wordC h4) x hx
    unfold wordC smallC digitC at this
    simp at this
    omega
  ·split at hl
   ·split at hl
    ·injection hl with _ _ h3 h4 _
     refine ⟨whole_all fun x hx => ?_, hk (by omega)⟩
     have := List.all_eq_true.1 (run digitC h4) x hx
     unfold digitC at this
     simp at this
     omega
    ·injection hl with h1 _ _ _ _; cases h1
   ·split at hl
    ·rename_i hc
     cases hq : quoS ((c :: r).drop 1) 1 ⟨0, [], none⟩ with
     | none => unfold quoL at hl; rw [hq] at hl; injection hl with h1 _ _ _ _; cases h1
     | some Q =>
      cases hb : Q.bad with
      | some j => rw [quoL_bad hq hb] at hl; injection hl with h1 _ _ _ _; cases h1
      | none =>
       rw [quoL_ok hq hb] at hl
       split at hl
       ·injection hl with h1 _ _ _ _; cases h1
       ·injection hl with _ _ h3 h4 h5
        obtain ⟨a, x, b, e, hx, hQ, hw, hle⟩ := quo_wrd _ _ (Nat.le_refl _) _ _ Q hq
        rw [List.drop_succ_cons, List.drop_zero] at e
        subst e
        have hb0 : b = [] := by
         cases b with
         | nil => rfl
         | cons _ _ => simp at h4; omega
        subst hb0
        refine ⟨fun m cur => ?_, ?_⟩
        ·have e2 : tgl c false = true := by unfold tgl; rw [if_pos hc]; rfl
         rw [List.cons_append, wrd_go (by simp) (by omega), e2, List.append_assoc, List.cons_append, List.nil_append, hw]; simp
        ·subst h3 h5
         have := hle hb
         simp [escL] at this
         unfold cw
         rw [if_pos rfl]
         simp [quoteL, escL]
         omega
    ·rename_i hc
     split at hl
     ·injection hl with h1 _ _ _ _; cases h1
     ·rename_i h0
      injection hl with _ _ h3 h4 _
      exact ⟨whole_all (signL_two hc h0 h4), hk (by omega)⟩
def wordsOf (l : List (List UInt8)) : List (List UInt8) := if l = [] then [[]] else l
def SepOk (u : List UInt8) : Prop := u.length ≤ 9 ∧ ∃ d r, u = d :: r ∧ blankC d = true ∧ ∀ v, X.skip (r ++ v) = X.skip v
inductive Jn : List (List UInt8) → List UInt8 → Prop
 | nil : Jn [] []
 | snoc {l : List (List UInt8)} {s t u : List UInt8} (h : Jn l s) (hu : SepOk u) : Jn (l ++ [t]) (s ++ t ++ u)
def sumL (l : List (List UInt8)) : Nat := (l.map fun t => t.length + 9).sum
theorem Jn.len {l : List (List UInt8)} {s : List UInt8} (h : Jn l s) : s.length ≤ sumL l := by
 induction h with
 | nil => simp
 | snoc h hu ih =>
  have := hu.1
  simp [sumL] at ih ⊢
  omega
end Go.Proofs.YtnbmpfdffoidaaaGreatDoor.Y
