/- Texts of the proof, joined: SynBlk3, SynTyp, SynTab. -/
import Derived.Test.YtnbmpfdffoidaaaGreatDoorBk24
set_option linter.unusedVariables false
set_option linter.unusedSimpArgs false
set_option maxHeartbeats 8000000
set_option maxRecDepth 100000
namespace Go.Proofs.YtnbmpfdffoidaaaGreatDoor.Y
open Go.RowKit O V S X
def GB (lo b1 : Nat) (x : Sts) (w' : World) : Prop := ∃ A k c, w'.heap[b1]? = some (.cells #[.slice A k c] 39 (0, 0)) ∧ RowS w' lo A k c x
theorem GB.more {lo lo' b1 : Nat} {x : Sts} {w : World} (h : GB lo b1 x w) (hl : lo' ≤ lo) : GB lo' b1 x w := by
 obtain ⟨A, k, c, e1, e2⟩ := h
 exact ⟨A, k, c, e1, e2.more hl⟩
theorem GB.mod {lo b1 g : Nat} {x : Sts} {w w' : World} (h : GB lo b1 x w) (m : Mod [g] w w') (hg : g ≠ b1) (hl : g < lo) : GB lo b1 x w' := by
 obtain ⟨A, k, c, e1, e2⟩ := h
 exact ⟨A, k, c, m.box e1 (by simp; omega), e2.mod m (fun b hb => by simp at hb; omega)⟩
theorem Bk.gb {w W : World} {g b0 b1 k : Nat} {A : Option Addr} {c : Nat} {a : Sts} {xs : List Value} {S : Nat → Prop} (h : Bk w W g b0 b1 k A c a xs S) : GB w.heap.size b1 a W :=
 ⟨A, k, c, h.x, xs, fun b => S b ∨ (Value.slice A k c).ownBlock = some b, Row.of_own h.own (fun g hg => .inr hg), (StsR_reps _ _).2 (h.reps.imp fun x vs => StR.mono (fun b hb => .inl hb) x vs), fun b hb => hb.elim (fun hb => ⟨(h.out b hb).1, (h.out b hb).2.1⟩) (fun hb => h.own.lt b hb)⟩
theorem block_step (f : Nat) (hS : ∀ f', f' ≤ f → SC f') : BC (f + 1) := by
 intro g d l w h hd hno
 rw [pBlock] at hno ⊢
 have HE := Lib.hid hS
 have HNA : Hid (isT l [123] = true → d < 16 → pStmts f (d + 1) .nil l.tail ≠ .oof) := Lib.hid (fun hi hd => around_no (k := fun d r => pStmts f d .nil r) hno hi hd)
 have HS := Lib.hid h
 have hlt := h.lt
 obtain ⟨RT, hRT⟩ : ∃ RT, Y.around [123] [125] d l (fun d r => pStmts f d .nil r) = RT := ⟨_, rfl⟩
 rw [hRT] at hno ⊢
 have HRT := Lib.hid hRT
 have hmf : ∀ (fn : Fn) (first cap : Array Value) (w : World), (Instr.makeFunc fn first cap).run Tryz.prog w = .ok (.func fn first cap) w := fun _ _ _ _ => rfl
 clear hS h hno hRT
 have HA : Hid (Below w.heap.size w ((w.alloc (.cells #[.pointer (some ⟨g, 0, none⟩)] 51)).alloc (.cells #[.slice none 0 0] 39))) := Lib.hid (by repeat (first | exact Below.refl _ _ | refine Below.alloc ?_ (by simp <;> omega) _))
 have HB0 : Hid (((w.alloc (.cells #[.pointer (some ⟨g, 0, none⟩)] 51)).alloc (.cells #[.slice none 0 0] 39)).heap[w.heap.size]? = some (.cells #[.pointer (some ⟨g, 0, none⟩)] 51 (0, 0))) := Lib.hid (alloc_old' (alloc_at rfl))
 have HB1 : Hid (((w.alloc (.cells #[.pointer (some ⟨g, 0, none⟩)] 51)).alloc (.cells #[.slice none 0 0] 39)).heap[w.heap.size + 1]? = some (.cells #[.slice none 0 0] 39 (0, 0))) := Lib.hid (alloc_at (by simp))
 have hz2 : ((w.alloc (.cells #[.pointer (some ⟨g, 0, none⟩)] 51)).alloc (.cells #[.slice none 0 0] 39)).heap.size = w.heap.size + 2 := by simp
 have hc1 := Tryz.call140
 go_enter Tryz.func102, Tryz.ntmps102
 go_wp2_with fail
 have HP2 := Lib.hid (HS.out.next HA.out)
 obtain ⟨w2, hw2⟩ : ∃ w2, ((w.alloc (.cells #[.pointer (some ⟨g, 0, none⟩)] 51)).alloc (.cells #[.slice none 0 0] 39)) = w2 := ⟨_, rfl⟩
 rw [hw2] at HA HB0 HB1 hz2 HP2 ⊢
 clear hw2
 have q0 : w2.cell? ⟨w.heap.size, 0, none⟩ = some (.pointer (some ⟨g, 0, none⟩)) := by rw [Lib.cell_of_heap HB0.out]; rfl
 go_wp2_with fail
 refine (around_any (α := Sts) g d l [123] [125] 140 #[.pointer (some ⟨w.heap.size, 0, none⟩), .pointer (some ⟨w.heap.size + 1, 0, none⟩)] [g, w.heap.size + 1] (fun d r => pStmts f d .nil r) (GB w2.heap.size (w.heap.size + 1)) w2 HP2.out hd (by simp) (fun x hx => by simp at hx; omega) hc1 (fun hi hd2 W mW pW => ?_)).mono ?_
 ·refine (block1_any f HE.out g (d + 1) w.heap.size (w.heap.size + 1) l.tail W pW hd2 (HNA.out hi hd2) (mW.box HB0.out (by simp; omega)) (mW.box HB1.out (by simp; omega)) (by omega) (by omega)).mono fun e w' ho => ho.imp fun y W' v hg => ⟨hg.1, ?_⟩
  obtain ⟨k, A, c, xs, S, hb⟩ := hg.2
  exact hb.gb.more mW.size
 rintro e w7 ⟨m7, h7⟩
 rw [show Y.around [123] [125] d l (fun d r => pStmts f d .nil r) = RT from HRT.out] at h7
 have M7 : Hid (Mod [g] w w7) := Lib.hid ((Mod.of_below HA.out).trans m7 (fun x hx => by
  simp at hx
  rcases hx with rfl | rfl
  ·exact .inl (by simp)
  ·exact .inr (by omega)))
 clear m7
 cases RT with
 | oof => exact h7.elim
 | bad =>
  obtain ⟨er, ep, eq, ez, hne, rfl⟩ := h7
  have HN := Lib.hid hne
  clear hne
  go_wp2_with fail
  exact ⟨rfl, M7.out, er, ep, eq, ez, HN.out, rfl⟩
 | ok y r =>
  obtain ⟨p7, v, rfl, rfl, W7, hG, m8⟩ := h7
  obtain ⟨A, k, c, e1, e2⟩ := hG.mod m8 (by omega) (by omega)
  have P7 := Lib.hid p7
  have x7 : w7.cell? ⟨w.heap.size + 1, 0, none⟩ = some (.slice A k c) := by rw [Lib.cell_of_heap e1]; rfl
  have fr7 : w7.frozen? ⟨w.heap.size + 1, 0, none⟩ = false := Lib.frozen_of_heap e1 0
  have X7 := Lib.hid e1
  have S7 := Lib.hid e2
  clear p7 hG m8 e1 e2
  go_wp2_with fail
  refine bodyPost_ret (v := .slice A k c) (by simp [results, Tryz.results102, go_sem, x7]) rfl ?_
  refine ⟨?_, ?_, _, rfl, A, k, c, rfl, ?_⟩
  ·exact M7.out.set (.inr (Nat.le_succ _)) _
  ·exact P7.out.set (Nat.lt_succ_of_lt hlt) _
  ·exact (S7.out.mod ((Mod.refl _ _).set (bs := [w.heap.size + 1]) (.inl (by simp)) _) (fun b hb => by simp at hb; omega)).more (by omega)
theorem stmt_upto : ∀ n f, f ≤ n → SC f ∧ BC f
 | n, 0, _ => ⟨fun g d l w _ _ hno => absurd (by rw [pStmt]) hno, fun g d l w _ _ hno => absurd (by rw [pBlock]) hno⟩
 | 0, f + 1, h => absurd h (by omega)
 | n + 1, f + 1, h => ⟨stmt_step f (stmt_upto n f (by omega)).2, block_step f fun f' h' => (stmt_upto n f' (by omega)).1⟩
theorem block_c (f : Nat) : BC f := (stmt_upto f f (Nat.le_refl _)).2
end Go.Proofs.YtnbmpfdffoidaaaGreatDoor.Y
namespace Go.Proofs.YtnbmpfdffoidaaaGreatDoor.Y
open Go.RowKit O V S X
theorem typ_any (g d : Nat) (l : List Tok) (w : World) (h : Ps w g d l) : Calls Tryz.prog 138 #[.pointer (some ⟨g, 0, none⟩)] w (Out [g] g d w (pTyp l) fun t _ v => v = V.tv t.1 t.2) := by
 obtain ⟨RT, hRT⟩ : ∃ RT, pTyp l = RT := ⟨_, rfl⟩
 rw [hRT]
 unfold pTyp w_int w_bool w_text at hRT
 have HR := Lib.hid hRT
 have HS := Lib.hid h
 have hlt := h.lt
 clear hRT h
 go_enter Tryz.func138, Tryz.ntmps138
 go_wp2_with fail
 refine (take_any g d l [105, 110, 116] _ (HS.out.alloc (.cells #[nv 0, nv 0] 70))).mono ?_; rintro e w1 ⟨rfl, m1, p1⟩
 have MW : Hid (Mod [g] w w1) := Lib.hid (((Mod.refl _ _).alloc _).then m1)
 have BX : Hid (w1.heap[w.heap.size]? = some (.cells #[nv 0, nv 0] 70 (0, 0))) := Lib.hid (m1.box (alloc_at rfl) (by simp; omega))
 clear m1
 cases hi : isT l [105, 110, 116] with
 | true =>
  have hq := HR.out
  rw [hi] at p1 hq
  simp only [if_true] at p1 hq
  subst hq
  have PW := Lib.hid p1
  clear p1
  have x0 : w1.cell? ⟨w.heap.size, 0, none⟩ = some (nv 0) := by rw [Lib.cell_of_heap BX.out]; rfl
  have x1 : w1.cell? ⟨w.heap.size, 1, none⟩ = some (nv 0) := by rw [Lib.cell_of_heap BX.out]; rfl
  have fr0 : w1.frozen? ⟨w.heap.size, 0, none⟩ = false := Lib.frozen_of_heap BX.out 0
  have fr1 : w1.frozen? ⟨w.heap.size, 1, none⟩ = false := Lib.frozen_of_heap BX.out 1
  go_wp2_with fail
  refine bodyPost_ret (v := .agg #[nv 1, nv 0]) (by simp [results, Tryz.results138, go_sem, x0, x1]) rfl ?_
  refine ⟨?_, ?_, _, rfl, rfl⟩
  ·repeat (first | (with_reducible exact MW.out) | refine Mod.set ?_ (.inr (Nat.le_refl _)) _)
  ·repeat (first | (with_reducible exact PW.out) | refine Ps.set ?_ (by omega) _)
 | false =>
  have hq := HR.out
  rw [hi] at p1 hq
  simp only [Bool.false_eq_true, if_false] at p1 hq
  replace HR := Lib.hid hq
  have PW := Lib.hid p1
  clear p1 hq
  go_wp2_with fail
  refine (take_any g d l [98, 111, 111, 108] _ PW.out).mono ?_; rintro e w2 ⟨rfl, m1, p1⟩
  replace MW := Lib.hid (MW.out.then m1)
  replace BX := Lib.hid (m1.box BX.out (by simp; omega))
  clear m1
  cases hb : isT l [98, 111, 111, 108] with
  | true =>
   have hq := HR.out
   rw [hb] at p1 hq
   simp only [if_true] at p1 hq
   subst hq
   replace PW := Lib.hid p1
   clear p1
   have x0 : w2.cell? ⟨w.heap.size, 0, none⟩ = some (nv 0) := by rw [Lib.cell_of_heap BX.out]; rfl
   have x1 : w2.cell? ⟨w.heap.size, 1, none⟩ = some (nv 0) := by rw [Lib.cell_of_heap BX.out]; rfl
   have fr0 : w2.frozen? ⟨w.heap.size, 0, none⟩ = false := Lib.frozen_of_heap BX.out 0
   have fr1 : w2.frozen? ⟨w.heap.size, 1, none⟩ = false := Lib.frozen_of_heap BX.out 1
   go_wp2_with fail
   refine bodyPost_ret (v := .agg #[nv 2, nv 0]) (by simp [results, Tryz.results138, go_sem, x0, x1]) rfl ?_
   refine ⟨?_, ?_, _, rfl, rfl⟩
   ·repeat (first | (with_reducible exact MW.out) | refine Mod.set ?_ (.inr (Nat.le_refl _)) _)
   ·repeat (first | (with_reducible exact PW.out) | refine Ps.set ?_ (by omega) _)
  | false =>
   have hq := HR.out
   rw [hb] at p1 hq
   simp only [Bool.false_eq_true, if_false] at p1 hq
   replace HR := Lib.hid hq
   replace PW := Lib.hid p1
   clear p1 hq
   go_wp2_with fail
   have m : Mod [g] w2 (w2.alloc (.cells #[sv [116, 101, 120, 116]] 9)) := (Mod.refl _ _).alloc _
   refine (want_any g d l [116, 101, 120, 116] _ _ (PW.out.alloc _) (by have := PW.out.lt; omega) (alloc_at rfl)).mono ?_; rintro e w3 hN
   replace m := m.then hN.1
   replace MW := Lib.hid (MW.out.then m)
   replace BX := Lib.hid (m.box BX.out (by simp; omega))
   rcases hN.parts with ⟨hp, er, ep, eq, ez, hne, rfl⟩ | ⟨u, r, v, hp, pN, rfl, rfl⟩
   ·have HN := Lib.hid hne
    clear hne
    have hq := HR.out
    rw [hp] at hq
    simp only [bind_bad] at hq
    subst hq
    go_wp2_with fail
    exact ⟨rfl, MW.out, er, ep, eq, ez, HN.out, rfl⟩
   have hq := HR.out
   rw [hp] at hq
   simp only [bind_ok] at hq
   replace HR := Lib.hid hq
   replace PW := Lib.hid pN
   clear hq hp pN
   clear hN m
   go_wp2_with fail
   refine (here_any g d r _ PW.out).mono ?_; rintro e w4 ⟨⟨ap, aq, ar, rfl⟩, hb4⟩
   replace MW := Lib.hid (MW.out.then (.of_below hb4))
   replace BX := Lib.hid ((Mod.of_below (bs := [g]) hb4).box BX.out (by simp; omega))
   replace PW := Lib.hid (PW.out.next hb4)
   clear hb4
   go_wp2_with fail
   have hl4 := PW.out.lt
   refine (num_any g d r _ (PW.out.alloc _)).mono ?_; rintro e w5 hN
   have m : Mod [g] w4 w5 := ((Mod.refl _ _).alloc _).then hN.1
   replace MW := Lib.hid (MW.out.then m)
   have HP5 := Lib.hid (hN.1.box (alloc_at rfl) (by have := PW.out.lt; simp; omega))
   replace BX := Lib.hid (m.box BX.out (by simp; omega))
   rcases hN.parts with ⟨hp, er, ep, eq, ez, hne, rfl⟩ | ⟨k, r, v, hp, pN, rfl, rfl⟩
   ·have HN := Lib.hid hne
    clear hne
    have hq := HR.out
    rw [hp] at hq
    simp only [bind_bad] at hq
    subst hq
    go_wp2_with fail
    exact ⟨rfl, MW.out, er, ep, eq, ez, HN.out, rfl⟩
   have hq := HR.out
   rw [hp] at hq
   simp only [bind_ok] at hq
   replace HR := Lib.hid hq
   replace PW := Lib.hid pN
   clear hq hp pN
   clear hN m
   go_wp2_with fail
   obtain ⟨w6, hw⟩ : ∃ W, W = w5.alloc (.cells #[nv 3, nv k] 70) := ⟨_, rfl⟩
   have m6 : Mod [g] w5 w6 := by rw [hw]; exact (Mod.refl _ _).alloc _
   have HT6 := Lib.hid (show w6.heap[w5.heap.size]? = some (.cells #[nv 3, nv k] 70 (0, 0)) by rw [hw]; exact alloc_at rfl)
   have hw5 : w.heap.size < w5.heap.size := (Array.getElem?_eq_some_iff.1 BX.out).1
   have hw4 : w4.heap.size < w5.heap.size := (Array.getElem?_eq_some_iff.1 HP5.out).1
   have hl5 := PW.out.lt
   replace PW : Hid (Ps w6 g d r) := Lib.hid (by rw [hw]; exact PW.out.alloc _)
   replace MW := Lib.hid (MW.out.then m6)
   replace HP5 := Lib.hid (m6.box HP5.out (by simp; omega))
   replace BX := Lib.hid (m6.box BX.out (by simp; omega))
   unfold nv at hw
   rw [← hw]
   clear hw m6
   refine (V.rightType_any 3 k w6).mono ?_; rintro e w7 ⟨rfl, hb7⟩
   have m7 := Mod.of_below (bs := [g]) hb7
   have hz6 : w5.heap.size < w6.heap.size := (Array.getElem?_eq_some_iff.1 HT6.out).1
   replace PW := Lib.hid (PW.out.next hb7)
   replace MW := Lib.hid (MW.out.then m7)
   replace HP5 := Lib.hid (m7.box HP5.out (by simp; omega))
   replace HT6 := Lib.hid (m7.box HT6.out (by simp; omega))
   replace BX := Lib.hid (m7.box BX.out (by simp; omega))
   clear m7 hb7
   have hrt : rightT 3 k = decide (1 ≤ k ∧ k ≤ 32) := by unfold rightT; simp [Bool.decide_and]
   rw [hrt]
   clear hrt
   by_cases hk : 1 ≤ k ∧ k ≤ 32
   ·have hq := HR.out
    rw [if_pos hk] at hq
    subst hq
    have hd : decide (1 ≤ k ∧ k ≤ 32) = true := decide_eq_true hk
    have x0 : w7.cell? ⟨w.heap.size, 0, none⟩ = some (nv 0) := by rw [Lib.cell_of_heap BX.out]; rfl
    have x1 : w7.cell? ⟨w.heap.size, 1, none⟩ = some (nv 0) := by rw [Lib.cell_of_heap BX.out]; rfl
    have fr0 : w7.frozen? ⟨w.heap.size, 0, none⟩ = false := Lib.frozen_of_heap BX.out 0
    have fr1 : w7.frozen? ⟨w.heap.size, 1, none⟩ = false := Lib.frozen_of_heap BX.out 1
    have y0 : w7.cell? ⟨w5.heap.size, 0, none⟩ = some (nv 3) := by rw [Lib.cell_of_heap HT6.out]; rfl
    have y1 : w7.cell? ⟨w5.heap.size, 1, none⟩ = some (nv k) := by rw [Lib.cell_of_heap HT6.out]; rfl
    rw [hd]
    clear hk hd
    go_wp2_with fail
    refine bodyPost_ret (v := .agg #[nv 3, nv k]) (by simp [results, Tryz.results138, go_sem, x0, x1]) rfl ?_
    refine ⟨?_, ?_, _, rfl, rfl⟩
    ·repeat (first | (with_reducible exact MW.out) | refine Mod.set ?_ (.inr (Nat.le_refl _)) _)
    ·repeat (first | (with_reducible exact PW.out) | refine Ps.set ?_ (by omega) _)
   ·have hq := HR.out
    rw [if_neg hk] at hq
    subst hq
    have hd : decide (1 ≤ k ∧ k ≤ 32) = false := decide_eq_false hk
    have y0 : w7.cell? ⟨w4.heap.size, 0, none⟩ = some (nv ap) := by rw [Lib.cell_of_heap HP5.out]; rfl
    have y1 : w7.cell? ⟨w4.heap.size, 1, none⟩ = some (nv aq) := by rw [Lib.cell_of_heap HP5.out]; rfl
    have y2 : w7.cell? ⟨w4.heap.size, 2, none⟩ = some (nv ar) := by rw [Lib.cell_of_heap HP5.out]; rfl
    rw [hd]
    clear hk hd
    go_wp2_with fail
    exact ⟨rfl, MW.out, _, _, _, _, by decide, rfl⟩
theorem col_any (g d : Nat) (l : List Tok) (w : World) (h : Ps w g d l) : Calls Tryz.prog 101 #[.pointer (some ⟨g, 0, none⟩)] w (Out [g] g d w (pCol l) fun c _ v => v = .agg #[sv c.name, nv c.k, nv c.m]) := by
 obtain ⟨RT, hRT⟩ : ∃ RT, pCol l = RT := ⟨_, rfl⟩
 rw [hRT]
 unfold pCol at hRT
 have HR := Lib.hid hRT
 have HS := Lib.hid h
 have hlt := h.lt
 clear hRT h
 go_enter Tryz.func101, Tryz.ntmps101
 go_wp2_with fail
 refine (name_any g d l _ (HS.out.alloc (.cells #[sv [], nv 0, nv 0] 72))).mono ?_; rintro e w1 hN
 have MW : Hid (Mod [g] w w1) := Lib.hid (((Mod.refl _ _).alloc _).then hN.1)
 have BX : Hid (w1.heap[w.heap.size]? = some (.cells #[sv [], nv 0, nv 0] 72 (0, 0))) := Lib.hid (hN.1.box (alloc_at rfl) (by simp; omega))
 have PW := HS
 rcases hN.parts with ⟨hp, er, ep, eq, ez, hne, rfl⟩ | ⟨n, r, v, hp, pN, rfl, rfl, hnm⟩
 ·have HN := Lib.hid hne
  clear hne
  have hq := HR.out
  rw [hp] at hq
  simp only [bind_bad] at hq
  subst hq
  go_wp2_with fail
  exact ⟨rfl, MW.out, er, ep, eq, ez, HN.out, rfl⟩
 have hq := HR.out
 rw [hp] at hq
 simp only [bind_ok] at hq
 replace HR := Lib.hid hq
 replace PW := Lib.hid pN
 clear hq hp pN
 clear hN hnm
 go_wp2_with fail
 refine (typ_any g d r _ PW.out).mono ?_; rintro e w2 hN
 have m := hN.1
 replace MW := Lib.hid (MW.out.then m)
 replace BX := Lib.hid (m.box BX.out (by simp; omega))
 rcases hN.parts with ⟨hp, er, ep, eq, ez, hne, rfl⟩ | ⟨t, r2, v, hp, pN, rfl, rfl⟩
 ·have HN := Lib.hid hne
  clear hne
  have hq := HR.out
  rw [hp] at hq
  simp only [bind_bad] at hq
  subst hq
  go_wp2_with fail
  exact ⟨rfl, MW.out, er, ep, eq, ez, HN.out, rfl⟩
 have hq := HR.out
 rw [hp] at hq
 simp only [bind_ok] at hq
 replace HR := Lib.hid hq
 replace PW := Lib.hid pN
 clear hq hp pN
 have hq := HR.out
 subst hq
 clear hN m
 unfold V.tv
 have x0 : w2.cell? ⟨w.heap.size, 0, none⟩ = some (sv []) := by rw [Lib.cell_of_heap BX.out]; rfl
 have x1 : w2.cell? ⟨w.heap.size, 1, none⟩ = some (nv 0) := by rw [Lib.cell_of_heap BX.out]; rfl
 have x2 : w2.cell? ⟨w.heap.size, 2, none⟩ = some (nv 0) := by rw [Lib.cell_of_heap BX.out]; rfl
 have fr0 : w2.frozen? ⟨w.heap.size, 0, none⟩ = false := Lib.frozen_of_heap BX.out 0
 have fr1 : w2.frozen? ⟨w.heap.size, 1, none⟩ = false := Lib.frozen_of_heap BX.out 1
 have fr2 : w2.frozen? ⟨w.heap.size, 2, none⟩ = false := Lib.frozen_of_heap BX.out 2
 go_wp2_with fail
 refine bodyPost_ret (v := .agg #[sv n, nv t.1, nv t.2]) (by simp [results, Tryz.results101, go_sem, x0, x1, x2]) rfl ?_
 refine ⟨?_, ?_, _, rfl, rfl⟩
 ·repeat (first | (with_reducible exact MW.out) | refine Mod.set ?_ (.inr (Nat.le_refl _)) _)
 ·repeat (first | (with_reducible exact PW.out) | refine Ps.set ?_ (by omega) _)
end Go.Proofs.YtnbmpfdffoidaaaGreatDoor.Y
namespace Go.Proofs.YtnbmpfdffoidaaaGreatDoor.Y
open Go.RowKit O V S X
theorem clE : Elem Tryz.prog 38 72 3 32 (.agg #[.string ByteArray.empty, .int .i64 0, .int .i64 0]) := by
 obtain ⟨i, hi, h1, h2, h3⟩ := info_parts (show (Tryz.prog.info? 72).map (fun i => (i.zero, i.size, i.bytes)) = some (some (.agg #[.string ByteArray.empty, .int .i64 0, .int .i64 0]), 3, 32) by kernel_rfl)
 exact ⟨Tryz.underlying38, i, hi, h1, h2, h3, rfl, by omega⟩
theorem typ_left (l : List Tok) : Left l.length (pTyp l) := by
 unfold pTyp
 split
 ·show l.tail.length ≤ _; simp
 ·split
  ·show l.tail.length ≤ _; simp
  ·refine Left.bind (want_left l _) fun _ r h => Left.bind ((num_left r).mono h) fun k r2 h2 => ?_
   split
   ·exact h2
   ·trivial
theorem col_left (l : List Tok) : Left (l.length - 1) (pCol l) := Left.bind (name_left1 l) fun n r h => Left.bind ((typ_left r).mono h) fun t r2 h2 => h2
structure Ck (w : World) (lo : Nat) (A : Option Addr) (k c : Nat) (a : List Cl) (xs : List Value) : Prop where
 own : w.ownsRow lo 72 3 (.slice A k c) k xs
 reps : Reps ClR a xs
 len : a.length = k
theorem Ck.nil_ (w : World) (lo : Nat) : Ck w lo none 0 0 [] [] := ⟨World.ownsRow_nil _ _ _ _, rfl, rfl⟩
theorem Ck.mod {w w' : World} {lo k c : Nat} {A : Option Addr} {a : List Cl} {xs : List Value} {bs : List Nat} (h : Ck w lo A k c a xs) (m : Mod bs w w') (hb : ∀ b ∈ bs, b < lo) : Ck w' lo A k c a xs :=
 ⟨own_mod h.own m (fun j hj hx => by have := (h.own.lt j hj).1; have := hb j hx; omega), h.reps, h.len⟩
theorem reps_snoc {α : Type} {P : α → List Value → Prop} {l : List α} {xs vs : List Value} {x : α} (h : Reps P l xs) (h1 : P x vs) : Reps P (l ++ [x]) (xs ++ vs) := by
 induction l generalizing xs with
 | nil =>
  have h : xs = [] := h
  subst h
  exact ⟨vs, [], by simp, h1, rfl⟩
 | cons y l ih =>
  obtain ⟨us, ys, e, h2, h3⟩ := h
  exact ⟨us, ys ++ vs, by rw [e, List.append_assoc], h2, ih h3⟩
theorem table_any (f g d : Nat) (l : List Tok) (w : World) (h : Ps w g d l) (hno : pTable f l ≠ .oof) : Calls Tryz.prog 47 #[.pointer (some ⟨g, 0, none⟩)] w (Out [g] g d w (pTable f l) fun t w' v => ∃ vs S, v = .agg vs.toArray ∧ TbR w' S t vs ∧ In w.heap.size w' S) := by
 obtain ⟨RT, hRT⟩ : ∃ RT, pTable f l = RT := ⟨_, rfl⟩
 rw [hRT] at hno ⊢
 unfold pTable w_table w_rows at hRT
 have HR := Lib.hid hRT
 have HNO := Lib.hid hno
 have hlt := h.lt
 have MW : Hid (Mod [g] w (w.alloc (.cells #[sv [], nv 0, .slice none 0 0] 66))) := Lib.hid ((Mod.refl _ _).alloc _)
 have BX : Hid ((w.alloc (.cells #[sv [], nv 0, .slice none 0 0] 66)).heap[w.heap.size]? = some (.cells #[sv [], nv 0, .slice none 0 0] 66 (0, 0))) := Lib.hid (alloc_at rfl)
 have PW : Hid (Ps (w.alloc (.cells #[sv [], nv 0, .slice none 0 0] 66)) g d l) := Lib.hid (h.alloc _)
 clear hRT hno h
 go_enter Tryz.func47, Tryz.ntmps47
 go_wp2_with fail
 have hz0 : (w.alloc (.cells #[sv [], nv 0, .slice none 0 0] 66)).heap.size = w.heap.size + 1 := by simp
 refine (want_any g d l [116, 97, 98, 108, 101] (w.heap.size + 1) _ (PW.out.alloc _) (by have := PW.out.lt; omega) (alloc_at (by simp))).mono ?_; rintro e w1 hN
 have m : Mod [g] (w.alloc (.cells #[sv [], nv 0, .slice none 0 0] 66)) w1 := ((Mod.refl _ _).alloc _).then hN.1
 replace MW := Lib.hid (MW.out.then m)
 replace BX := Lib.hid (m.box BX.out (by simp; omega))
 try replace CK := Lib.hid (CK.out.mod m (fun b hb => by simp at hb; omega))
 rcases hN.parts with ⟨hp, er, ep, eq, ez, hne, rfl⟩ | ⟨u, r1, v, hp, pN, rfl, rfl⟩
 ·have HN := Lib.hid hne
  clear hne
  have hq := HR.out
  rw [hp] at hq
  simp only [bind_bad] at hq
  subst hq
  go_wp2_with fail
  exact ⟨rfl, MW.out, er, ep, eq, ez, HN.out, rfl⟩
 have hq := HR.out
 rw [hp] at hq
 simp only [bind_ok] at hq
 replace HR := Lib.hid hq
 replace PW := Lib.hid pN
 clear hq hp pN
 clear hN m hz0
 go_wp2_with fail
 refine (name_any g d r1 w1 PW.out).mono ?_; rintro e w2 hN
 have m := hN.1
 replace MW := Lib.hid (MW.out.then m)
 replace BX := Lib.hid (m.box BX.out (by simp; omega))
 try replace CK := Lib.hid (CK.out.mod m (fun b hb => by simp at hb; omega))
 rcases hN.parts with ⟨hp, er, ep, eq, ez, hne, rfl⟩ | ⟨n, r2, v, hp, pN, rfl, rfl, hnm⟩
 ·have HN := Lib.hid hne
  clear hne
  have hq := HR.out
  rw [hp] at hq
  simp only [bind_bad] at hq
  subst hq
  go_wp2_with fail
  exact ⟨rfl, MW.out, er, ep, eq, ez, HN.out, rfl⟩
 have hq := HR.out
 rw [hp] at hq
 simp only [bind_ok] at hq
 replace HR := Lib.hid hq
 replace PW := Lib.hid pN
 clear hq hp pN
 clear hN m hnm
 have x0 : w2.cell? ⟨w.heap.size, 0, none⟩ = some (sv []) := by rw [Lib.cell_of_heap BX.out]; rfl
 have x1 : w2.cell? ⟨w.heap.size, 1, none⟩ = some (nv 0) := by rw [Lib.cell_of_heap BX.out]; rfl
 have x2 : w2.cell? ⟨w.heap.size, 2, none⟩ = some (.slice none 0 0) := by rw [Lib.cell_of_heap BX.out]; rfl
 have fr0 : w2.frozen? ⟨w.heap.size, 0, none⟩ = false := Lib.frozen_of_heap BX.out 0
 have fr1 : w2.frozen? ⟨w.heap.size, 1, none⟩ = false := Lib.frozen_of_heap BX.out 1
 have fr2 : w2.frozen? ⟨w.heap.size, 2, none⟩ = false := Lib.frozen_of_heap BX.out 2
 go_wp2_with fail
 clear x0 x1 x2 fr0 fr1 fr2
 obtain ⟨w3, hw⟩ : ∃ W, w2.setCell ⟨w.heap.size, 0, none⟩ (sv n) = W := ⟨_, rfl⟩
 replace BX : Hid (w3.heap[w.heap.size]? = some (.cells #[sv n, nv 0, .slice none 0 0] 66 (0, 0))) := Lib.hid (by rw [← hw]; exact heap_set' BX.out _ 0 rfl)
 replace MW : Hid (Mod [g] w w3) := Lib.hid (by rw [← hw]; exact MW.out.set (.inr (Nat.le_refl _)) _)
 replace PW : Hid (Ps w3 g d r2) := Lib.hid (by rw [← hw]; exact PW.out.set (by omega) _)
 have hzw3 : w3.heap.size = w2.heap.size := by rw [← hw]; simp
 first | rw [hw] | (unfold nv sv at hw; rw [hw])
 clear hw
 go_wp2_with fail
 refine (want_any g d r2 [114, 111, 119, 115] _ _ (PW.out.alloc _) (by have := PW.out.lt; omega) (alloc_at (by omega))).mono ?_; rintro e w4 hN
 have m : Mod [g] w3 w4 := ((Mod.refl _ _).alloc _).then hN.1
 replace MW := Lib.hid (MW.out.then m)
 replace BX := Lib.hid (m.box BX.out (by simp; omega))
 try replace CK := Lib.hid (CK.out.mod m (fun b hb => by simp at hb; omega))
 rcases hN.parts with ⟨hp, er, ep, eq, ez, hne, rfl⟩ | ⟨u, r4, v, hp, pN, rfl, rfl⟩
 ·have HN := Lib.hid hne
  clear hne
  have hq := HR.out
  rw [hp] at hq
  simp only [bind_bad] at hq
  subst hq
  go_wp2_with fail
  exact ⟨rfl, MW.out, er, ep, eq, ez, HN.out, rfl⟩
 have hq := HR.out
 rw [hp] at hq
 simp only [bind_ok] at hq
 replace HR := Lib.hid hq
 replace PW := Lib.hid pN
 clear hq hp pN
 clear hN m
 go_wp2_with fail
 refine (num_any g d r4 w4 PW.out).mono ?_; rintro e w5 hN
 have m := hN.1
 replace MW := Lib.hid (MW.out.then m)
 replace BX := Lib.hid (m.box BX.out (by simp; omega))
 try replace CK := Lib.hid (CK.out.mod m (fun b hb => by simp at hb; omega))
 rcases hN.parts with ⟨hp, er, ep, eq, ez, hne, rfl⟩ | ⟨q, r5, v, hp, pN, rfl, rfl⟩
 ·have HN := Lib.hid hne
  clear hne
  have hq := HR.out
  rw [hp] at hq
  simp only [bind_bad] at hq
  subst hq
  go_wp2_with fail
  exact ⟨rfl, MW.out, er, ep, eq, ez, HN.out, rfl⟩
 have hq := HR.out
 rw [hp] at hq
 simp only [bind_ok] at hq
 replace HR := Lib.hid hq
 replace PW := Lib.hid pN
 clear hq hp pN
 clear hN m
 have x0 : w5.cell? ⟨w.heap.size, 0, none⟩ = some (sv n) := by rw [Lib.cell_of_heap BX.out]; rfl
 have x1 : w5.cell? ⟨w.heap.size, 1, none⟩ = some (nv 0) := by rw [Lib.cell_of_heap BX.out]; rfl
 have x2 : w5.cell? ⟨w.heap.size, 2, none⟩ = some (.slice none 0 0) := by rw [Lib.cell_of_heap BX.out]; rfl
 have fr0 : w5.frozen? ⟨w.heap.size, 0, none⟩ = false := Lib.frozen_of_heap BX.out 0
 have fr1 : w5.frozen? ⟨w.heap.size, 1, none⟩ = false := Lib.frozen_of_heap BX.out 1
 have fr2 : w5.frozen? ⟨w.heap.size, 2, none⟩ = false := Lib.frozen_of_heap BX.out 2
 go_wp2_with fail
 clear x0 x1 x2 fr0 fr1 fr2
 obtain ⟨w6, hw⟩ : ∃ W, w5.setCell ⟨w.heap.size, 1, none⟩ (nv q) = W := ⟨_, rfl⟩
 replace BX : Hid (w6.heap[w.heap.size]? = some (.cells #[sv n, nv q, .slice none 0 0] 66 (0, 0))) := Lib.hid (by rw [← hw]; exact heap_set' BX.out _ 1 rfl)
 replace MW : Hid (Mod [g] w w6) := Lib.hid (by rw [← hw]; exact MW.out.set (.inr (Nat.le_refl _)) _)
 replace PW : Hid (Ps w6 g d r5) := Lib.hid (by rw [← hw]; exact PW.out.set (by omega) _)
 have hzw6 : w6.heap.size = w5.heap.size := by rw [← hw]; simp
 first | rw [hw] | (unfold nv sv at hw; rw [hw])
 clear hw
 go_wp2_with fail
 refine (want_any g d r5 [123] _ _ (PW.out.alloc _) (by have := PW.out.lt; omega) (alloc_at (by omega))).mono ?_; rintro e w7 hN
 have m : Mod [g] w6 w7 := ((Mod.refl _ _).alloc _).then hN.1
 replace MW := Lib.hid (MW.out.then m)
 replace BX := Lib.hid (m.box BX.out (by simp; omega))
 try replace CK := Lib.hid (CK.out.mod m (fun b hb => by simp at hb; omega))
 rcases hN.parts with ⟨hp, er, ep, eq, ez, hne, rfl⟩ | ⟨u, r7, v, hp, pN, rfl, rfl⟩
 ·have HN := Lib.hid hne
  clear hne
  have hq := HR.out
  rw [hp] at hq
  simp only [bind_bad] at hq
  subst hq
  go_wp2_with fail
  exact ⟨rfl, MW.out, er, ep, eq, ez, HN.out, rfl⟩
 have hq := HR.out
 rw [hp] at hq
 simp only [bind_ok] at hq
 replace HR := Lib.hid hq
 replace PW := Lib.hid pN
 clear hq hp pN
 clear hN m
 have CK := Lib.hid (Ck.nil_ w7 (w.heap.size + 1))
 go_wp2_with fail
 go_loopw [] (fun wr => ∃ (f' : Nat) (a : List Cl) (l' : List Tok) (k : Nat) (A : Option Addr) (c : Nat) (xs : List Value), f' ≤ f ∧ k ≤ 8 ∧ Hid ((pCols f' a l').bind (fun c r => Res.ok ⟨n, q, c⟩ r) = RT) ∧ Hid (wr.heap[w.heap.size]? = some (.cells #[sv n, nv q, .slice A k c] 66 (0, 0))) ∧ Hid (Ck wr (w.heap.size + 1) A k c a xs) ∧ Hid (Ps wr g d l') ∧ Hid (Mod [g] w wr)) (fun wr => lenW wr g)
 case atStart => exact ⟨f, [], r7, 0, none, 0, [], Nat.le_refl _, by omega, HR, BX, CK, PW, MW⟩
 case round =>
  clear HR BX CK PW MW
  obtain ⟨f', a, l', k, A, c, xs, hf', hk8, HR, BX, CK, PW, MW⟩ := hrel
  cases f' with
  | zero => exact absurd (HR.out.symm.trans (by rw [pCols]; rfl)) HNO.out
  | succ f2 =>
   have hR1 := HR.out
   rw [pCols] at hR1
   have HLN := Lib.hid (PW.out.lenW)
   clear HR
   go_wp2_with fail
   refine (take_any g d l' [125] _ PW.out).mono ?_; rintro e w8 ⟨rfl, m, p1⟩
   replace MW := Lib.hid (MW.out.then m)
   replace BX := Lib.hid (m.box BX.out (by simp; omega))
   try replace CK := Lib.hid (CK.out.mod m (fun b hb => by simp at hb; omega))
   clear m PW
   cases hi : isT l' [125] with
   | true =>
    rw [hi] at p1 hR1
    simp only [if_true, bind_ok] at p1 hR1
    subst hR1
    have PW := Lib.hid p1
    clear p1
    have x0 : w8.cell? ⟨w.heap.size, 0, none⟩ = some (sv n) := by rw [Lib.cell_of_heap BX.out]; rfl
    have x1 : w8.cell? ⟨w.heap.size, 1, none⟩ = some (nv q) := by rw [Lib.cell_of_heap BX.out]; rfl
    have x2 : w8.cell? ⟨w.heap.size, 2, none⟩ = some (.slice A k c) := by rw [Lib.cell_of_heap BX.out]; rfl
    have fr0 : w8.frozen? ⟨w.heap.size, 0, none⟩ = false := Lib.frozen_of_heap BX.out 0
    have fr1 : w8.frozen? ⟨w.heap.size, 1, none⟩ = false := Lib.frozen_of_heap BX.out 1
    have fr2 : w8.frozen? ⟨w.heap.size, 2, none⟩ = false := Lib.frozen_of_heap BX.out 2
    go_wp2_with fail
    refine bodyPost_ret (v := .agg #[sv n, nv q, .slice A k c]) (by simp [results, Tryz.results47, go_sem, x0, x1, x2]) rfl ?_
    refine ⟨?_, ?_, _, rfl, ?_⟩
    ·repeat (first | (with_reducible exact MW.out) | refine Mod.set ?_ (.inr (Nat.le_refl _)) _)
    ·repeat (first | (with_reducible exact PW.out) | refine Ps.set ?_ (by omega) _)
    ·obtain rfl := CK.out.len
     refine ⟨_, fun b => (Value.slice A a.length c).ownBlock = some b, rfl, ⟨A, c, xs, rfl, Row.of_own (own_mod (bs := [w.heap.size]) CK.out.own ?_ (fun j hj hx => by have := (CK.out.own.lt j hj).1; simp at hx; omega)) (fun g hg => hg), CK.out.reps⟩, fun b hb => ⟨by have := (CK.out.own.lt b hb).1; omega, by have := (CK.out.own.lt b hb).2; simp; omega⟩⟩
     repeat (first | (with_reducible exact Mod.refl _ _) | refine Mod.set ?_ (.inl (by simp)) _)
   | false =>
    rw [hi] at p1 hR1
    simp only [Bool.false_eq_true, if_false] at p1 hR1
    have HR := Lib.hid hR1
    have PW := Lib.hid p1
    clear p1 hR1
    go_wp2_with fail
    refine (isName_p g d l' _ PW.out).mono ?_; rintro e w9 ⟨rfl, rfl⟩
    cases hn : isN l' with
    | false =>
     have hq := HR.out
     rw [hn] at hq
     simp only [Bool.false_eq_true, if_false, bind_ok] at hq
     replace HR := Lib.hid hq
     have hk : isN l' = true → k < 8 := fun e => by rw [hn] at e; cases e
     clear hq hn
     go_wp2_with fail
     go_wp2_with fail
     refine wp_region_last (l := [_, _, _, _, _, _, _]) [w.heap.size] (.read 0 (.read 1 (.read 2 (.call 3 (.call 4 (.call 5 (.read 6 .done))))))) (by kernel_rfl) (by kernel_rfl) (by kernel_rfl) (fun _ _ d _ _ h => by cases d <;> exact h) ?_
     refine pwith (fun W hW => (show W.cell? ⟨w.heap.size, 2, none⟩ = some (.slice A k c) from by rw [Lib.cell_of_heap ((hW w.heap.size (by simp)).trans BX.out)]; rfl)) (fun k7 => ?_)
     repeat (first | (refine sreadxP rfl rfl ?_; apply Exists.intro; apply And.intro; (· (intro W hW; go_simp; try (first | with_reducible rfl | (rw [if_neg (by omega)]; try with_reducible rfl)))); simp only [Act.put, List.setIfInBounds_toArray, List.set_cons_zero, List.set_cons_succ]) | (refine pskip rfl rfl ?_; simp only [Act.put, List.setIfInBounds_toArray, List.set_cons_zero, List.set_cons_succ]))
     refine pcall rfl rfl (fun K hK => ?_)
     go_simp
     refine (col_any g d l' _ (PW.out.next (Below.refl _ _).drew)).mono ?_; rintro e wa hN
     have m : Mod [g] w9 wa := (Mod.refl _ _).drew.then hN.1
     have hbx : w.heap.size < w9.heap.size := (Array.getElem?_eq_some_iff.1 BX.out).1
     have hkb : wa.heap[w.heap.size]? = w9.heap[w.heap.size]? := m.block w.heap.size hbx (by simp; omega)
     replace MW := Lib.hid (MW.out.then m)
     replace BX := Lib.hid (m.box BX.out (by simp; omega))
     try replace CK := Lib.hid (CK.out.mod m (fun b hb => by simp at hb; omega))
     rcases hN.parts with ⟨hp, er, ep, eq, ez, hne, rfl⟩ | ⟨y, rr, v, hp, pN, rfl, rfl⟩
     ·have HN := Lib.hid hne
      clear hne
      have hq := HR.out
      rw [hp] at hq
      simp only [bind_bad] at hq
      subst hq
      go_wp2_with fail
      exact ⟨rfl, MW.out, er, ep, eq, ez, HN.out, rfl⟩
     have hk8' : k < 8 := hk (col_isN hp)
     have hcl := col_left l'
     rw [hp] at hcl
     have hl0 : 0 < l'.length := by
      have hii := col_isN hp
      cases hc : l' with
      | nil => rw [hc] at hii; cases hii
      | cons t0 l0 => simp
     have HCL : Hid (rr.length < l'.length) := Lib.hid (Nat.lt_of_le_of_lt (show rr.length ≤ l'.length - 1 from hcl) (by omega))
     have hq := HR.out
     rw [hp] at hq
     simp only [bind_ok] at hq
     replace HR := Lib.hid hq
     replace PW := Lib.hid pN
     clear hq hp pN
     clear hN m hcl hl0
     go_wp2_with fail
     refine hK.out _ _ (fun b hb => by simp at hb; rw [hb]; exact hkb) ?_
     clear hK K hkb hk k7
     try simp only [Act.put, List.setIfInBounds_toArray, List.set_cons_zero, List.set_cons_succ]
     refine pcall rfl rfl (fun K hK => ?_)
     go_simp
     have hba : w.heap.size < wa.heap.size := (Array.getElem?_eq_some_iff.1 BX.out).1
     refine hK.out _ _ (fun b hb => Below.heap_alloc _ _ _ (by simp at hb; omega)) ?_
     clear hK K
     try simp only [Act.put, List.setIfInBounds_toArray, List.set_cons_zero, List.set_cons_succ]
     obtain ⟨wb, hw⟩ : ∃ W, W = wa.alloc (.cells #[sv y.name, nv y.k, nv y.m] 72) := ⟨_, rfl⟩
     have m : Mod [g] wa wb := by rw [hw]; exact (Mod.refl _ _).alloc _
     have RD : Hid (Rd wb (wa.heap.size + 1) 3 (some ⟨wa.heap.size, 0, none⟩) 1 [sv y.name, nv y.k, nv y.m]) := Lib.hid (by rw [hw]; exact Rd.made _ _ rfl rfl)
     have hzb : wb.heap.size = wa.heap.size + 1 := by rw [hw]; simp
     replace PW : Hid (Ps wb g d rr) := Lib.hid (by rw [hw]; exact PW.out.alloc _)
     replace MW := Lib.hid (MW.out.then m)
     replace BX := Lib.hid (m.box BX.out (by simp; omega))
     try replace CK := Lib.hid (CK.out.mod m (fun b hb => by simp at hb; omega))
     first | rw [← hw] | (unfold nv sv at hw; rw [← hw])
     clear hw m
     refine pcall rfl rfl (fun K hK => ?_)
     refine wapp4 (.tmp 29) (.tmp 32) clE rfl (w.heap.size + 1) xs rfl CK.out.own rfl [sv y.name, nv y.k, nv y.m] RD.out (by simp [Value.oneCell']) (by unfold maxLen; omega) (by omega) (by omega) rfl ?_
     intro A7 c7 w7 o7 g7 h7
     have hne7 : ∀ b, b ≤ w.heap.size → some b ≠ (Value.slice A k c).ownBlock := fun b hb e => by have := (CK.out.own.lt _ e.symm).1; omega
     refine hK.out _ _ (fun b hb => by simp at hb; rw [hb]; exact g7.block w.heap.size (by omega) (hne7 _ (by omega))) ?_
     clear hK K
     try simp only [Act.put, List.setIfInBounds_toArray, List.set_cons_zero, List.set_cons_succ]
     replace BX := Lib.hid ((g7.block w.heap.size (by omega) (hne7 _ (by omega))).trans BX.out)
     replace PW : Hid (Ps w7 g d rr) := Lib.hid (PW.out.keep (fun b hb => g7.block b (by omega) (hne7 b (by omega))))
     replace MW : Hid (Mod [g] w w7) := Lib.hid (MW.out.grown g7 (fun j hj => .inr (by have := (CK.out.own.lt j hj).1; omega)))
     replace CK : Hid (Ck w7 (w.heap.size + 1) A7 (k + 1) c7 (a ++ [y]) (xs ++ [sv y.name, nv y.k, nv y.m])) := Lib.hid ⟨o7, reps_snoc CK.out.reps rfl, by simp [CK.out.len]⟩
     clear o7 g7 h7 hne7 RD hzb
     repeat (first | (refine sreadxP rfl rfl ?_; apply Exists.intro; apply And.intro; (· (intro W hW; go_simp; try (first | with_reducible rfl | (rw [if_neg (by omega)]; try with_reducible rfl)))); simp only [Act.put, List.setIfInBounds_toArray, List.set_cons_zero, List.set_cons_succ]) | (refine pskip rfl rfl ?_; simp only [Act.put, List.setIfInBounds_toArray, List.set_cons_zero, List.set_cons_succ]))
     refine pdone ?_
     refine last_step rfl (fun K hK => ?_)
     have x0 : w7.cell? ⟨w.heap.size, 0, none⟩ = some (sv n) := by rw [Lib.cell_of_heap BX.out]; rfl
     have x1 : w7.cell? ⟨w.heap.size, 1, none⟩ = some (nv q) := by rw [Lib.cell_of_heap BX.out]; rfl
     have x2 : w7.cell? ⟨w.heap.size, 2, none⟩ = some (.slice A k c) := by rw [Lib.cell_of_heap BX.out]; rfl
     have fr0 : w7.frozen? ⟨w.heap.size, 0, none⟩ = false := Lib.frozen_of_heap BX.out 0
     have fr1 : w7.frozen? ⟨w.heap.size, 1, none⟩ = false := Lib.frozen_of_heap BX.out 1
     have fr2 : w7.frozen? ⟨w.heap.size, 2, none⟩ = false := Lib.frozen_of_heap BX.out 2
     go_simp
     refine hK.out _ _ ?_
     clear hK K
     clear x0 x1 x2 fr0 fr1 fr2
     obtain ⟨wc, hw⟩ : ∃ W, w7.setCell ⟨w.heap.size, 2, none⟩ (.slice A7 (k + 1) c7) = W := ⟨_, rfl⟩
     have hzc : wc.heap.size = w7.heap.size := by rw [← hw]; simp
     replace CK := Lib.hid (CK.out.mod (show Mod [w.heap.size] w7 wc by rw [← hw]; exact (Mod.refl _ _).set (.inl (by simp)) _) (fun b hb => by simp at hb; omega))
     replace BX : Hid (wc.heap[w.heap.size]? = some (.cells #[sv n, nv q, .slice A7 (k + 1) c7] 66 (0, 0))) := Lib.hid (by rw [← hw]; exact heap_set' BX.out _ 2 rfl)
     replace MW : Hid (Mod [g] w wc) := Lib.hid (by rw [← hw]; exact MW.out.set (.inr (Nat.le_refl _)) _)
     replace PW : Hid (Ps wc g d rr) := Lib.hid (by rw [← hw]; exact PW.out.set (by omega) _)
     try rw [hw]
     clear hw
     have hwl := want_left rr [59]
     go_wp2_with fail
     refine (want_any g d rr [59] _ _ (PW.out.alloc _) (by have := PW.out.lt; omega) (alloc_at (by omega))).mono ?_; rintro e wd hN
     have m : Mod [g] wc wd := ((Mod.refl _ _).alloc _).then hN.1
     replace MW := Lib.hid (MW.out.then m)
     replace BX := Lib.hid (m.box BX.out (by simp; omega))
     try replace CK := Lib.hid (CK.out.mod m (fun b hb => by simp at hb; omega))
     rcases hN.parts with ⟨hp, er, ep, eq, ez, hne, rfl⟩ | ⟨u, re, v, hp, pN, rfl, rfl⟩
     ·have HN := Lib.hid hne
      clear hne
      have hq := HR.out
      rw [hp] at hq
      simp only [bind_bad] at hq
      subst hq
      go_wp2_with fail
      exact ⟨rfl, MW.out, er, ep, eq, ez, HN.out, rfl⟩
     rw [hp] at hwl
     have HWL : Hid (re.length ≤ rr.length) := Lib.hid hwl
     have hq := HR.out
     rw [hp] at hq
     simp only [bind_ok] at hq
     replace HR := Lib.hid hq
     replace PW := Lib.hid pN
     clear hq hp pN
     clear hN m hwl
     have hll := PW.out.lenW
     have hln := HLN.out
     have hlc := HCL.out
     have hwl := HWL.out
     go_wp2_with fail
     go_roundw
     case rel => exact ⟨f2, a ++ [y], re, k + 1, A7, c7, _, by omega, by omega, HR, BX, CK, PW, MW⟩
     case measure => rw [hll, hln]; omega
    | true =>
     have hq := HR.out
     rw [hn] at hq
     simp only [if_true] at hq
     replace HR := Lib.hid hq
     clear hq
     have x2 : w9.cell? ⟨w.heap.size, 2, none⟩ = some (.slice A k c) := by rw [Lib.cell_of_heap BX.out]; rfl
     go_wp2_with fail
     refine (room_any g d k 8 l' _ PW.out (by omega) (by omega)).mono ?_; rintro e w10 hN
     have m := hN.1
     replace MW := Lib.hid (MW.out.then m)
     replace BX := Lib.hid (m.box BX.out (by simp; omega))
     try replace CK := Lib.hid (CK.out.mod m (fun b hb => by simp at hb; omega))
     rcases hN.parts with ⟨hp, er, ep, eq, ez, hne, rfl⟩ | ⟨u, r, v, hp, pN, rfl, rfl⟩
     ·rw [← CK.out.len] at hp
      have HN := Lib.hid hne
      clear hne
      have hq := HR.out
      rw [hp] at hq
      simp only [bind_bad] at hq
      subst hq
      go_wp2_with fail
      exact ⟨rfl, MW.out, er, ep, eq, ez, HN.out, rfl⟩
     have hkl : k < 8 ∧ r = l' := by
      unfold room at hp
      split at hp
      ·cases hp
      ·injection hp with _ h2
       exact ⟨by omega, h2.symm⟩
     obtain ⟨hkl, rfl⟩ := hkl
     rw [← CK.out.len] at hp
     have hq := HR.out
     rw [hp] at hq
     simp only [bind_ok] at hq
     replace HR := Lib.hid hq
     replace PW := Lib.hid pN
     clear hq hp pN
     have hk : isN r = true → k < 8 := fun e => hkl
     clear hN m x2 hn hkl
     go_wp2_with fail
     refine wp_region_last (l := [_, _, _, _, _, _, _]) [w.heap.size] (.read 0 (.read 1 (.read 2 (.call 3 (.call 4 (.call 5 (.read 6 .done))))))) (by kernel_rfl) (by kernel_rfl) (by kernel_rfl) (fun _ _ d _ _ h => by cases d <;> exact h) ?_
     refine pwith (fun W hW => (show W.cell? ⟨w.heap.size, 2, none⟩ = some (.slice A k c) from by rw [Lib.cell_of_heap ((hW w.heap.size (by simp)).trans BX.out)]; rfl)) (fun k7 => ?_)
     repeat (first | (refine sreadxP rfl rfl ?_; apply Exists.intro; apply And.intro; (· (intro W hW; go_simp; try (first | with_reducible rfl | (rw [if_neg (by omega)]; try with_reducible rfl)))); simp only [Act.put, List.setIfInBounds_toArray, List.set_cons_zero, List.set_cons_succ]) | (refine pskip rfl rfl ?_; simp only [Act.put, List.setIfInBounds_toArray, List.set_cons_zero, List.set_cons_succ]))
     refine pcall rfl rfl (fun K hK => ?_)
     go_simp
     refine (col_any g d r _ (PW.out.next (Below.refl _ _).drew)).mono ?_; rintro e wa hN
     have m : Mod [g] w10 wa := (Mod.refl _ _).drew.then hN.1
     have hbx : w.heap.size < w10.heap.size := (Array.getElem?_eq_some_iff.1 BX.out).1
     have hkb : wa.heap[w.heap.size]? = w10.heap[w.heap.size]? := m.block w.heap.size hbx (by simp; omega)
     replace MW := Lib.hid (MW.out.then m)
     replace BX := Lib.hid (m.box BX.out (by simp; omega))
     try replace CK := Lib.hid (CK.out.mod m (fun b hb => by simp at hb; omega))
     rcases hN.parts with ⟨hp, er, ep, eq, ez, hne, rfl⟩ | ⟨y, rr, v, hp, pN, rfl, rfl⟩
     ·have HN := Lib.hid hne
      clear hne
      have hq := HR.out
      rw [hp] at hq
      simp only [bind_bad] at hq
      subst hq
      go_wp2_with fail
      exact ⟨rfl, MW.out, er, ep, eq, ez, HN.out, rfl⟩
     have hk8' : k < 8 := hk (col_isN hp)
     have hcl := col_left r
     rw [hp] at hcl
     have hl0 : 0 < r.length := by
      have hii := col_isN hp
      cases hc : r with
      | nil => rw [hc] at hii; cases hii
      | cons t0 l0 => simp
     have HCL : Hid (rr.length < r.length) := Lib.hid (Nat.lt_of_le_of_lt (show rr.length ≤ r.length - 1 from hcl) (by omega))
     have hq := HR.out
     rw [hp] at hq
     simp only [bind_ok] at hq
     replace HR := Lib.hid hq
     replace PW := Lib.hid pN
     clear hq hp pN
     clear hN m hcl hl0
     go_wp2_with fail
     refine hK.out _ _ (fun b hb => by simp at hb; rw [hb]; exact hkb) ?_
     clear hK K hkb hk k7
     try simp only [Act.put, List.setIfInBounds_toArray, List.set_cons_zero, List.set_cons_succ]
     refine pcall rfl rfl (fun K hK => ?_)
     go_simp
     have hba : w.heap.size < wa.heap.size := (Array.getElem?_eq_some_iff.1 BX.out).1
     refine hK.out _ _ (fun b hb => Below.heap_alloc _ _ _ (by simp at hb; omega)) ?_
     clear hK K
     try simp only [Act.put, List.setIfInBounds_toArray, List.set_cons_zero, List.set_cons_succ]
     obtain ⟨wb, hw⟩ : ∃ W, W = wa.alloc (.cells #[sv y.name, nv y.k, nv y.m] 72) := ⟨_, rfl⟩
     have m : Mod [g] wa wb := by rw [hw]; exact (Mod.refl _ _).alloc _
     have RD : Hid (Rd wb (wa.heap.size + 1) 3 (some ⟨wa.heap.size, 0, none⟩) 1 [sv y.name, nv y.k, nv y.m]) := Lib.hid (by rw [hw]; exact Rd.made _ _ rfl rfl)
     have hzb : wb.heap.size = wa.heap.size + 1 := by rw [hw]; simp
     replace PW : Hid (Ps wb g d rr) := Lib.hid (by rw [hw]; exact PW.out.alloc _)
     replace MW := Lib.hid (MW.out.then m)
     replace BX := Lib.hid (m.box BX.out (by simp; omega))
     try replace CK := Lib.hid (CK.out.mod m (fun b hb => by simp at hb; omega))
     first | rw [← hw] | (unfold nv sv at hw; rw [← hw])
     clear hw m
     refine pcall rfl rfl (fun K hK => ?_)
     refine wapp4 (.tmp 29) (.tmp 32) clE rfl (w.heap.size + 1) xs rfl CK.out.own rfl [sv y.name, nv y.k, nv y.m] RD.out (by simp [Value.oneCell']) (by unfold maxLen; omega) (by omega) (by omega) rfl ?_
     intro A7 c7 w7 o7 g7 h7
     have hne7 : ∀ b, b ≤ w.heap.size → some b ≠ (Value.slice A k c).ownBlock := fun b hb e => by have := (CK.out.own.lt _ e.symm).1; omega
     refine hK.out _ _ (fun b hb => by simp at hb; rw [hb]; exact g7.block w.heap.size (by omega) (hne7 _ (by omega))) ?_
     clear hK K
     try simp only [Act.put, List.setIfInBounds_toArray, List.set_cons_zero, List.set_cons_succ]
     replace BX := Lib.hid ((g7.block w.heap.size (by omega) (hne7 _ (by omega))).trans BX.out)
     replace PW : Hid (Ps w7 g d rr) := Lib.hid (PW.out.keep (fun b hb => g7.block b (by omega) (hne7 b (by omega))))
     replace MW : Hid (Mod [g] w w7) := Lib.hid (MW.out.grown g7 (fun j hj => .inr (by have := (CK.out.own.lt j hj).1; omega)))
     replace CK : Hid (Ck w7 (w.heap.size + 1) A7 (k + 1) c7 (a ++ [y]) (xs ++ [sv y.name, nv y.k, nv y.m])) := Lib.hid ⟨o7, reps_snoc CK.out.reps rfl, by simp [CK.out.len]⟩
     clear o7 g7 h7 hne7 RD hzb
     repeat (first | (refine sreadxP rfl rfl ?_; apply Exists.intro; apply And.intro; (· (intro W hW; go_simp; try (first | with_reducible rfl | (rw [if_neg (by omega)]; try with_reducible rfl)))); simp only [Act.put, List.setIfInBounds_toArray, List.set_cons_zero, List.set_cons_succ]) | (refine pskip rfl rfl ?_; simp only [Act.put, List.setIfInBounds_toArray, List.set_cons_zero, List.set_cons_succ]))
     refine pdone ?_
     refine last_step rfl (fun K hK => ?_)
     have x0 : w7.cell? ⟨w.heap.size, 0, none⟩ = some (sv n) := by rw [Lib.cell_of_heap BX.out]; rfl
     have x1 : w7.cell? ⟨w.heap.size, 1, none⟩ = some (nv q) := by rw [Lib.cell_of_heap BX.out]; rfl
     have x2 : w7.cell? ⟨w.heap.size, 2, none⟩ = some (.slice A k c) := by rw [Lib.cell_of_heap BX.out]; rfl
     have fr0 : w7.frozen? ⟨w.heap.size, 0, none⟩ = false := Lib.frozen_of_heap BX.out 0
     have fr1 : w7.frozen? ⟨w.heap.size, 1, none⟩ = false := Lib.frozen_of_heap BX.out 1
     have fr2 : w7.frozen? ⟨w.heap.size, 2, none⟩ = false := Lib.frozen_of_heap BX.out 2
     go_simp
     refine hK.out _ _ ?_
     clear hK K
     clear x0 x1 x2 fr0 fr1 fr2
     obtain ⟨wc, hw⟩ : ∃ W, w7.setCell ⟨w.heap.size, 2, none⟩ (.slice A7 (k + 1) c7) = W := ⟨_, rfl⟩
     have hzc : wc.heap.size = w7.heap.size := by rw [← hw]; simp
     replace CK := Lib.hid (CK.out.mod (show Mod [w.heap.size] w7 wc by rw [← hw]; exact (Mod.refl _ _).set (.inl (by simp)) _) (fun b hb => by simp at hb; omega))
     replace BX : Hid (wc.heap[w.heap.size]? = some (.cells #[sv n, nv q, .slice A7 (k + 1) c7] 66 (0, 0))) := Lib.hid (by rw [← hw]; exact heap_set' BX.out _ 2 rfl)
     replace MW : Hid (Mod [g] w wc) := Lib.hid (by rw [← hw]; exact MW.out.set (.inr (Nat.le_refl _)) _)
     replace PW : Hid (Ps wc g d rr) := Lib.hid (by rw [← hw]; exact PW.out.set (by omega) _)
     try rw [hw]
     clear hw
     have hwl := want_left rr [59]
     go_wp2_with fail
     refine (want_any g d rr [59] _ _ (PW.out.alloc _) (by have := PW.out.lt; omega) (alloc_at (by omega))).mono ?_; rintro e wd hN
     have m : Mod [g] wc wd := ((Mod.refl _ _).alloc _).then hN.1
     replace MW := Lib.hid (MW.out.then m)
     replace BX := Lib.hid (m.box BX.out (by simp; omega))
     try replace CK := Lib.hid (CK.out.mod m (fun b hb => by simp at hb; omega))
     rcases hN.parts with ⟨hp, er, ep, eq, ez, hne, rfl⟩ | ⟨u, re, v, hp, pN, rfl, rfl⟩
     ·have HN := Lib.hid hne
      clear hne
      have hq := HR.out
      rw [hp] at hq
      simp only [bind_bad] at hq
      subst hq
      go_wp2_with fail
      exact ⟨rfl, MW.out, er, ep, eq, ez, HN.out, rfl⟩
     rw [hp] at hwl
     have HWL : Hid (re.length ≤ rr.length) := Lib.hid hwl
     have hq := HR.out
     rw [hp] at hq
     simp only [bind_ok] at hq
     replace HR := Lib.hid hq
     replace PW := Lib.hid pN
     clear hq hp pN
     clear hN m hwl
     have hll := PW.out.lenW
     have hln := HLN.out
     have hlc := HCL.out
     have hwl := HWL.out
     go_wp2_with fail
     go_roundw
     case rel => exact ⟨f2, a ++ [y], re, k + 1, A7, c7, _, by omega, by omega, HR, BX, CK, PW, MW⟩
     case measure => rw [hll, hln]; omega
end Go.Proofs.YtnbmpfdffoidaaaGreatDoor.Y
