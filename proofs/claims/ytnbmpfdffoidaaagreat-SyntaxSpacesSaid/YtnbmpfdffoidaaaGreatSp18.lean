/- Texts of the proof, joined: SynExpr, SynUn, SynKey. -/
import Derived.Test.YtnbmpfdffoidaaaGreatSp12
set_option linter.unusedVariables false
set_option linter.unusedSimpArgs false
set_option maxHeartbeats 8000000
set_option maxRecDepth 100000
namespace Go.Proofs.YtnbmpfdffoidaaaGreat.Y
open Go.RowKit O V S X
def EC (f : Nat) : Prop := ∀ (g d lvl : Nat) (l : List Tok) (w : World), Ps w g d l → d ≤ 16 → pExpr f lvl d l ≠ .oof → Calls Tryz.prog 116 #[.pointer (some ⟨g, 0, none⟩), nv lvl] w (Out [g] g d w (pExpr f lvl d l) (ExG w.heap.size))
def UC (f : Nat) : Prop := ∀ (g d : Nat) (l : List Tok) (w : World), Ps w g d l → d ≤ 16 → pUnary f d l ≠ .oof → Calls Tryz.prog 122 #[.pointer (some ⟨g, 0, none⟩)] w (Out [g] g d w (pUnary f d l) (ExG w.heap.size))
def OC (f : Nat) : Prop := ∀ (g d : Nat) (l : List Tok) (w : World), Ps w g d l → d ≤ 16 → pOperand f d l ≠ .oof → Calls Tryz.prog 124 #[.pointer (some ⟨g, 0, none⟩)] w (Out [g] g d w (pOperand f d l) (ExG w.heap.size))
def lenW (w : World) (g : Nat) : Nat := match w.cell? ⟨g, 0, none⟩ with
 | some (.slice _ n _) => n
 | _ => 0
theorem Ps.lenW {w : World} {g d : Nat} {l : List Tok} (h : Ps w g d l) : lenW w g = l.length := by
 obtain ⟨A, n, c, a, b, e, h⟩ := h
 unfold Y.lenW
 rw [h.cells.1.1, h.row.len]
theorem ExR.set {w : World} {S : Nat → Prop} {x : Ex} {vs : List Value} {b i : Nat} (h : ExR w S x vs) (hb : ¬ S b) (v : Value) : ExR (w.setCell ⟨b, i, none⟩ v) S x vs :=
 ExR.keep (fun k hk => Below.heap_setCell _ _ _ _ (fun e => hb (by rw [← show k = b from e]; exact hk))) _ _ h
theorem bind_no {α β : Type} {p : Res α} {k : α → List Tok → Res β} {R : Res β} (h : p.bind k = R) (hR : R ≠ .oof) : p ≠ .oof := by
 rintro rfl
 exact hR h.symm
theorem expr_step (f : Nat) (hU : UC f) (hE : ∀ f', f' ≤ f → EC f') : EC (f + 1) := by
 intro g d lvl l w h hd hno
 obtain ⟨RT, hRT⟩ : ∃ RT, pExpr (f + 1) lvl d l = RT := ⟨_, rfl⟩
 rw [hRT] at hno ⊢
 rw [pExpr_succ] at hRT
 have HRT := Lib.hid hRT
 have HNO := Lib.hid hno
 have HS := Lib.hid h
 have hlt := h.lt
 clear hRT hno h
 have HE := Lib.hid hE
 have HU := Lib.hid (hU g d l (w.alloc (.cells #[nv 0, nv 0, nv 0, sv [], sv [], sv [], nv 0, .slice none 0 0, nv 0, nv 0, nv 0] 43)) (HS.out.alloc _) hd (bind_no HRT.out HNO.out))
 clear hE hU
 go_enter Tryz.func116, Tryz.ntmps116
 go_wp2_with fail
 refine HU.out.mono ?_; rintro e w1 ⟨m1, h1⟩
 have M1 : Hid (Mod [g] w w1) := Lib.hid (((Mod.refl _ _).alloc _).then m1)
 have Z1 : Hid (w1.heap[w.heap.size]? = some (.cells #[nv 0, nv 0, nv 0, sv [], sv [], sv [], nv 0, .slice none 0 0, nv 0, nv 0, nv 0] 43 (0, 0))) := Lib.hid (m1.box (alloc_at rfl) (by simp; omega))
 clear m1 HU
 cases hu : pUnary f d l with
 | oof => rw [hu] at h1; exact h1.elim
 | bad =>
  rw [hu] at h1
  obtain ⟨er, ep, eq, ez, hne, rfl⟩ := h1
  have HN := Lib.hid hne
  clear hne
  have hq := (by have := HRT.out; rw [hu] at this; exact this)
  simp only [bind_bad, bind_ok] at hq
  subst hq
  go_wp2_with fail
  exact ⟨rfl, M1.out, er, ep, eq, ez, HN.out, rfl⟩
 | ok x r =>
  rw [hu] at h1
  obtain ⟨p1, v, rfl, vs, S, rfl, hx, hS⟩ := h1
  have HR1 : Hid (pLoop f lvl d x r = RT) := Lib.hid (by have := HRT.out; rw [hu] at this; exact this)
  obtain ⟨A, n, c, p, q, z, rfl⟩ := hx.form
  have P1 := Lib.hid p1
  have X1 := Lib.hid hx
  have S1 := Lib.hid hS
  have hv : Value.agg (exC x (.slice A n c) p q z).toArray = .agg #[nv (hdK x), nv (hdV x).k, nv (hdV x).n, sv (hdV x).s, sv (hdN x), sv (hdC x), nv (hdO x : Nat), .slice A n c, nv p, nv q, nv z] := rfl
  rw [hv]
  clear hv p1 hx hS HRT hu
  go_wp2_with fail
  have hs1 := M1.out.size
  have hlo : w.heap.size < w1.heap.size := (Array.getElem?_eq_some_iff.1 Z1.out).1
  have D0 := Lib.hid (P1.out.alloc (.cells #[nv (hdK x), nv (hdV x).k, nv (hdV x).n, sv (hdV x).s, sv (hdN x), sv (hdC x), nv (hdO x : Nat), .slice A n c, nv p, nv q, nv z] 43))
  go_loopw [6, 7, 8] (fun _ _ _ wr => ∃ (f' : Nat) (x : Ex) (l' : List Tok) (vs : List Value) (S : Nat → Prop), f' ≤ f ∧ Hid (pLoop f' lvl d x l' = RT) ∧ Hid (wr.heap[w1.heap.size]? = some (.cells vs.toArray 43 (0, 0))) ∧ Hid (ExR wr S x vs) ∧ Hid (∀ b, S b → w.heap.size < b ∧ b < wr.heap.size ∧ b ≠ w1.heap.size) ∧ Hid (Ps wr g d l') ∧ Hid (Mod [g] w wr) ∧ Hid (wr.heap[w.heap.size]? = some (.cells #[nv 0, nv 0, nv 0, sv [], sv [], sv [], nv 0, .slice none 0 0, nv 0, nv 0, nv 0] 43 (0, 0)))) (fun _ _ _ wr => lenW wr g)
  case atStart =>
   refine ⟨f, x, r, exC x (.slice A n c) p q z, S, Nat.le_refl _, HR1, Lib.hid (alloc_at rfl), Lib.hid (ExR.keep (fun b hb => ?_) _ _ X1.out), Lib.hid (fun b hb => ?_), D0, Lib.hid (M1.out.alloc _), Lib.hid (alloc_old' Z1.out)⟩
   ·exact Below.heap_alloc _ _ _ (S1.out b hb).2
   ·have := S1.out b hb
    simp at this
    refine ⟨by omega, by simp; omega, by omega⟩
  case round =>
   obtain ⟨f', x', l', vs, S', hf', HR, HX, HT, HSS, HP, HM, HZ⟩ := hrel
   clear D0 P1 X1 S1 HR1
   generalize w1.heap.size = bx at *
   go_wp2_with fail
   refine (operator_any g d l' _ HP.out).mono ?_; rintro e w2 ⟨rfl, rfl⟩
   obtain ⟨o1, ho1⟩ : ∃ o, (opT l').1 = o := ⟨_, rfl⟩
   obtain ⟨o2, ho2⟩ : ∃ o, (opT l').2 = o := ⟨_, rfl⟩
   rw [ho1, ho2]
   cases f' with
   | zero => exact absurd (HR.out.symm.trans (pLoop_zero _ _ _ _)) HNO.out
   | succ f2 =>
    have hR2 := HR.out
    rw [pLoop_succ, ho1, ho2] at hR2
    obtain ⟨A, n, c, p, q, z, rfl⟩ := HT.out.form
    have hb0 : Hid (w2.heap[bx]? = some (.cells #[nv (hdK x'), nv (hdV x').k, nv (hdV x').n, sv (hdV x').s, sv (hdN x'), sv (hdC x'), nv (hdO x' : Nat), .slice A n c, nv p, nv q, nv z] 43 (0, 0))) := HX
    by_cases hle : o2 ≤ lvl
    ·rw [if_pos hle] at hR2
     have HR2 := Lib.hid hR2
     have d1 : decide ((o2 : Int) ≤ (lvl : Int)) = true := by simp; omega
     have d2 : decide (o2 ≤ lvl) = true := by simp; omega
     obtain ⟨⟨⟨⟨y0, y1⟩, y2, y3⟩, ⟨y4, y5⟩, y6, y7⟩, ⟨y8, y9⟩, y10⟩ := cells11 hb0.out
     obtain ⟨⟨⟨⟨z0, z1⟩, z2, z3⟩, ⟨z4, z5⟩, z6, z7⟩, ⟨z8, z9⟩, z10⟩ := cells11 HZ.out
     obtain ⟨⟨⟨⟨fr0, fr1⟩, fr2, fr3⟩, ⟨fr4, fr5⟩, fr6, fr7⟩, ⟨fr8, fr9⟩, fr10⟩ := frozen11 HZ.out
     clear hR2 hle ho1 ho2
     go_wp2_with fail
     refine bodyPost_ret (v := .agg #[nv (hdK x'), nv (hdV x').k, nv (hdV x').n, sv (hdV x').s, sv (hdN x'), sv (hdC x'), nv (hdO x' : Nat), .slice A n c, nv p, nv q, nv z]) (by simp [results, Tryz.results116, go_sem, z0, z1, z2, z3, z4, z5, z6, z7, z8, z9, z10]) rfl ?_
     have hq := HR2.out
     subst hq
     have hns : ¬ S' w.heap.size := fun hh => by have := HSS.out _ hh; omega
     refine ⟨?_, ?_, _, rfl, exC x' (.slice A n c) p q z, S', rfl, ?_, ?_⟩
     ·repeat (first | (with_reducible exact HM.out) | refine Mod.set ?_ (.inr (Nat.le_refl _)) _)
     ·repeat (first | (with_reducible exact HP.out) | refine Ps.set ?_ hlt _)
     ·repeat (first | (with_reducible exact HT.out) | refine ExR.set ?_ hns _)
     ·intro b hb
      have := HSS.out b hb
      simp
      omega
    ·rw [if_neg hle] at hR2
     have HR2 := Lib.hid hR2
     have d1 : decide ((o2 : Int) ≤ (lvl : Int)) = false := by simp; omega
     have d2 : decide (o2 ≤ lvl) = false := by simp; omega
     obtain ⟨t, r', rfl, ht4, hn4⟩ := opT_some (l := l') (by omega)
     have HLE := Lib.hid hle
     have HOO := Lib.hid (And.intro ho1 ho2)
     clear hR2 hle ho1 ho2
     go_wp2_with fail
     refine (next_any g d _ 4 _ HP.out).mono ?_; rintro e w3 ⟨m3, h3⟩
     rw [hn4] at h3
     obtain ⟨p3, v, rfl, tp, tq, tz, rfl⟩ := h3
     clear ht4
     have f3 := tok_f3 t.1 t.2.2.k t.2.2.n tp tq tz t.2.1 t.2.2.s w3
     unfold tokV
     go_wp2_with fail
     have M4 : Hid (Mod [g] w (w3.alloc (.cells #[nv tp, nv tq, nv tz] 29))) := Lib.hid ((HM.out.then m3).alloc _)
     have hbx0 : bx < w2.heap.size := (Array.getElem?_eq_some_iff.1 hb0.out).1
     have hgx : g ≠ bx := by omega
     have X4 : Hid ((w3.alloc (.cells #[nv tp, nv tq, nv tz] 29)).heap[bx]? = some (.cells #[nv (hdK x'), nv (hdV x').k, nv (hdV x').n, sv (hdV x').s, sv (hdN x'), sv (hdC x'), nv (hdO x' : Nat), .slice A n c, nv p, nv q, nv z] 43 (0, 0))) := Lib.hid (alloc_old' (m3.box hb0.out (by simp; omega)))
     have Z4 : Hid ((w3.alloc (.cells #[nv tp, nv tq, nv tz] 29)).heap[w.heap.size]? = some (.cells #[nv 0, nv 0, nv 0, sv [], sv [], sv [], nv 0, .slice none 0 0, nv 0, nv 0, nv 0] 43 (0, 0))) := Lib.hid (alloc_old' (m3.box HZ.out (by simp; omega)))
     have A4 : Hid ((w3.alloc (.cells #[nv tp, nv tq, nv tz] 29)).heap[w3.heap.size]? = some (.cells #[nv tp, nv tq, nv tz] 29 (0, 0))) := Lib.hid (alloc_at rfl)
     have P4 := Lib.hid (p3.alloc (.cells #[nv tp, nv tq, nv tz] 29))
     have T4 : Hid (ExR (w3.alloc (.cells #[nv tp, nv tq, nv tz] 29)) S' x' (exC x' (.slice A n c) p q z)) := Lib.hid (ExR.keep (fun b hb => by
      have h1 := HSS.out b hb
      rw [Below.heap_alloc _ _ _ (Nat.lt_of_lt_of_le h1.2.1 m3.size)]
      exact m3.block b h1.2.1 (by simp; omega)) _ _ HT.out)
     have S4 : Hid (∀ b, S' b → w.heap.size < b ∧ b < w3.heap.size ∧ b ≠ bx) := Lib.hid (fun b hb => by
      have h1 := HSS.out b hb
      have := m3.size
      exact ⟨h1.1, by omega, h1.2.2⟩)
     have hl3 : Hid (lenW w2 g = r'.length + 1) := Lib.hid (by rw [HP.out.lenW]; rfl)
     have hb3 : bx < w3.heap.size := Nat.lt_of_lt_of_le hbx0 m3.size
     clear m3 p3 HM HX HZ HT HSS HP hb0
     generalize hW4 : w3.alloc (.cells #[nv tp, nv tq, nv tz] 29) = w4 at *
     have h34 : w4.heap.size = w3.heap.size + 1 := by rw [← hW4]; simp
     clear hW4
     have hno2 := bind_no HR2.out HNO.out
     obtain ⟨n4, hn4e⟩ : ∃ n4, w4.heap.size = n4 := ⟨_, rfl⟩
     refine wp_region_last (l := [_, _, _, _, _, _, _, _]) [bx, w3.heap.size] (.read 0 (.read 1 (.read 2 (.read 3 (.read 6 (.call 4 (.call 5 (.read 7 .done)))))))) (by kernel_rfl) (by kernel_rfl) (by kernel_rfl) (fun _ _ d _ _ h => by cases d <;> exact h) ?_
     refine pwith (fun W hW => (cells11 ((hW bx (by simp)).trans X4.out))) (fun k1 => ?_)
     refine pwith (fun W hW => (cells3 ((hW w3.heap.size (by simp)).trans A4.out))) (fun k2 => ?_)
     repeat (first | (refine sreadxP rfl rfl ?_; apply Exists.intro; apply And.intro; (· (intro W hW; go_simp; try (first | with_reducible rfl | (rw [if_neg (by omega)]; try with_reducible rfl)))); simp only [Act.put, List.setIfInBounds_toArray, List.set_cons_zero, List.set_cons_succ]) | (refine pskip rfl rfl ?_; simp only [Act.put, List.setIfInBounds_toArray, List.set_cons_zero, List.set_cons_succ]))
     refine pcall rfl rfl (fun K hK => ?_)
     go_simp
     refine (HE.out f2 (by omega) g d o2 r' w4.drew (P4.out.next (Below.refl _ _).drew) hd hno2).mono ?_; rintro e w5 ⟨m5, h5⟩
     have M5 : Hid (Mod [g] w4 w5) := Lib.hid ((Mod.refl _ _).drew.then m5)
     have KB5 : Hid (KB [bx, w3.heap.size] w4.drew w5) := Lib.hid (fun b hb => m5.block b (by simp at hb; show b < w4.heap.size; omega) (by simp at hb ⊢; omega))
     clear m5
     cases hu : pExpr f2 o2 d r' with
     | oof => exact absurd hu hno2
     | bad =>
      rw [hu] at h5
      obtain ⟨er, ep, eq, ez, hne, rfl⟩ := h5
      have HN := Lib.hid hne
      clear hne
      have hq := (by have := HR2.out; rw [show (t :: r').tail = r' from rfl, hu] at this; exact this)
      simp only [bind_bad, bind_ok] at hq
      subst hq
      go_wp2_with fail
      simp only [lastQ]
      go_wp2_with fail
      exact ⟨rfl, M4.out.then M5.out, er, ep, eq, ez, HN.out, rfl⟩
     | ok y r2 =>
      rw [hu] at h5
      obtain ⟨p5, v, rfl, vs5, S5, rfl, hx5, hS5⟩ := h5
      have HR5 : Hid (pLoop f2 lvl d (.bin o1 x' y) r2 = RT) := Lib.hid (by have := HR2.out; rw [show (t :: r').tail = r' from rfl, hu] at this; exact this)
      obtain ⟨A5, n5, c5, a5, b5, e5, rfl⟩ := hx5.form
      have hv : Value.agg (exC y (.slice A5 n5 c5) a5 b5 e5).toArray = .agg #[nv (hdK y), nv (hdV y).k, nv (hdV y).n, sv (hdV y).s, sv (hdN y), sv (hdC y), nv (hdO y : Nat), .slice A5 n5 c5, nv a5, nv b5, nv e5] := rfl
      rw [hv]
      clear hv
      go_wp2_with fail
      refine hK.out _ _ KB5.out ?_
      clear hK K
      try simp only [Act.put, List.setIfInBounds_toArray, List.set_cons_zero, List.set_cons_succ]
      refine pcall rfl rfl (fun K hK => ?_)
      go_simp
      have hs5 := M5.out.size
      have X5 := M5.out.box X4.out (by simp; omega)
      have Z5 := M5.out.box Z4.out (by simp; omega)
      refine hK.out _ _ (fun b hb => Below.heap_alloc _ _ _ (by simp at hb; omega)) ?_
      clear hK K
      try simp only [Act.put, List.setIfInBounds_toArray, List.set_cons_zero, List.set_cons_succ]
      have R6 : Hid ((w5.alloc (.cells (exC x' (.slice A n c) p q z ++ exC y (.slice A5 n5 c5) a5 b5 e5).toArray 43)).heap[w5.heap.size]? = some (.cells (exC x' (.slice A n c) p q z ++ exC y (.slice A5 n5 c5) a5 b5 e5).toArray 43 (0, 0))) := Lib.hid (alloc_at rfl)
      have X6 : Hid ((w5.alloc (.cells (exC x' (.slice A n c) p q z ++ exC y (.slice A5 n5 c5) a5 b5 e5).toArray 43)).heap[bx]? = _) := Lib.hid (alloc_old' X5)
      have Z6 : Hid ((w5.alloc (.cells (exC x' (.slice A n c) p q z ++ exC y (.slice A5 n5 c5) a5 b5 e5).toArray 43)).heap[w.heap.size]? = _) := Lib.hid (alloc_old' Z5)
      have P6 := Lib.hid (p5.alloc (.cells (exC x' (.slice A n c) p q z ++ exC y (.slice A5 n5 c5) a5 b5 e5).toArray 43))
      have M6 : Hid (Mod [g] w (w5.alloc (.cells (exC x' (.slice A n c) p q z ++ exC y (.slice A5 n5 c5) a5 b5 e5).toArray 43))) := Lib.hid ((M4.out.then M5.out).alloc _)
      have TX6 : Hid (ExR (w5.alloc (.cells (exC x' (.slice A n c) p q z ++ exC y (.slice A5 n5 c5) a5 b5 e5).toArray 43)) S' x' (exC x' (.slice A n c) p q z)) := Lib.hid (ExR.keep (fun b hb => by
       have h1 := S4.out b hb
       rw [Below.heap_alloc _ _ _ (by omega)]
       exact M5.out.block b (by omega) (by simp; omega)) _ _ T4.out)
      have TY6 : Hid (ExR (w5.alloc (.cells (exC x' (.slice A n c) p q z ++ exC y (.slice A5 n5 c5) a5 b5 e5).toArray 43)) S5 y (exC y (.slice A5 n5 c5) a5 b5 e5)) := Lib.hid (ExR.keep (fun b hb => Below.heap_alloc _ _ _ (hS5 b hb).2) _ _ hx5)
      have S6 := Lib.hid hS5
      have hz6 : (w5.alloc (.cells (exC x' (.slice A n c) p q z ++ exC y (.slice A5 n5 c5) a5 b5 e5).toArray 43)).heap.size = w5.heap.size + 1 := by simp
      have he6 : (Obj.cells (exC x' (.slice A n c) p q z ++ exC y (.slice A5 n5 c5) a5 b5 e5).toArray 43) = Obj.cells #[nv (hdK x'), nv (hdV x').k, nv (hdV x').n, sv (hdV x').s, sv (hdN x'), sv (hdC x'), nv (hdO x' : Nat), .slice A n c, nv p, nv q, nv z, nv (hdK y), nv (hdV y).k, nv (hdV y).n, sv (hdV y).s, sv (hdN y), sv (hdC y), nv (hdO y : Nat), .slice A5 n5 c5, nv a5, nv b5, nv e5] 43 := rfl
      rw [← he6]
      clear he6 p5 hS5 hx5 X5 Z5 KB5
      generalize w5.alloc (.cells (exC x' (.slice A n c) p q z ++ exC y (.slice A5 n5 c5) a5 b5 e5).toArray 43) = w6 at *
      repeat (first | (refine sreadxP rfl rfl ?_; apply Exists.intro; apply And.intro; (· (intro W hW; go_simp; try (first | with_reducible rfl | (rw [if_neg (by omega)]; try with_reducible rfl)))); simp only [Act.put, List.setIfInBounds_toArray, List.set_cons_zero, List.set_cons_succ]) | (refine pskip rfl rfl ?_; simp only [Act.put, List.setIfInBounds_toArray, List.set_cons_zero, List.set_cons_succ]))
      refine pdone ?_
      refine last_step rfl (fun K hK => ?_)
      obtain ⟨⟨⟨⟨fr0, fr1⟩, fr2, fr3⟩, ⟨fr4, fr5⟩, fr6, fr7⟩, ⟨fr8, fr9⟩, fr10⟩ := frozen11 X6.out
      obtain ⟨⟨⟨⟨y0, y1⟩, y2, y3⟩, ⟨y4, y5⟩, y6, y7⟩, ⟨y8, y9⟩, y10⟩ := cells11 X6.out
      go_simp
      refine hK.out _ _ ?_
      clear hK K
      have hSx : ¬ ((S' bx ∨ S5 bx) ∨ bx = w5.heap.size) := by
       rintro ((hh | hh) | hh)
       ·exact (S4.out _ hh).2.2 rfl
       ·have := (S6.out _ hh).1
        have h8 : w4.drew.heap.size = w4.heap.size := rfl
        omega
       ·omega
      obtain ⟨w7, hw7⟩ : ∃ w7, w7 = set11 w6 bx (nv 8) (nv 0) (nv 0) (sv []) (sv []) (sv []) (nv (o1 : Nat)) (.slice (some ⟨w5.heap.size, 0, none⟩) 2 2) (nv tp) (nv tq) (nv tz) := ⟨_, rfl⟩
      have B7 : Hid (w7.heap[bx]? = some (.cells (exC (.bin o1 x' y) (.slice (some ⟨w5.heap.size, 0, none⟩) 2 2) tp tq tz).toArray 43 (0, 0))) := Lib.hid (by
       rw [hw7]
       exact set11_box (vs := exC x' (.slice A n c) p q z) X6.out rfl)
      have hk7 : ∀ k, k ≠ bx → w7.heap[k]? = w6.heap[k]? := fun k hk => by
       rw [hw7]
       exact set11_other hk
      have hz7 : w7.heap.size = w6.heap.size := by rw [hw7]; exact set11_size
      have P7 : Hid (Ps w7 g d r2) := Lib.hid (P6.out.keep fun b hb => hk7 b (by omega))
      have M7 : Hid (Mod [g] w w7) := Lib.hid (M6.out.trans (cs := [bx]) (by rw [hw7]; exact set11_mod) (fun x hx => .inr (by simp at hx; omega)))
      have Z7 : Hid (w7.heap[w.heap.size]? = _) := Lib.hid ((hk7 _ (by omega)).trans Z6.out)
      have TX7 := Lib.hid (ExR.mono (S' := fun b => (S' b ∨ S5 b) ∨ b = w5.heap.size) (fun b hb => .inl (.inl hb)) _ _ (ExR.keep (w' := w7) (fun b hb => hk7 b (S4.out b hb).2.2) _ _ TX6.out))
      have TY7 := Lib.hid (ExR.mono (S' := fun b => (S' b ∨ S5 b) ∨ b = w5.heap.size) (fun b hb => .inl (.inr hb)) _ _ (ExR.keep (w' := w7) (fun b hb => hk7 b (fun e => hSx (by rw [← e]; exact .inl (.inr hb)))) _ _ TY6.out))
      have T7 : Hid (ExR w7 (fun b => (S' b ∨ S5 b) ∨ b = w5.heap.size) (.bin o1 x' y) (exC (.bin o1 x' y) (.slice (some ⟨w5.heap.size, 0, none⟩) 2 2) tp tq tz)) := Lib.hid (ExR.two rfl rfl (Row.of_block ((hk7 _ (by omega)).trans R6.out) (.inr rfl) rfl (by omega) (by omega)) TX7.out TY7.out)
      have S7 : Hid (∀ b, ((S' b ∨ S5 b) ∨ b = w5.heap.size) → w.heap.size < b ∧ b < w7.heap.size ∧ b ≠ bx) := Lib.hid (fun b hb => by
       refine ⟨?_, ?_, fun e => hSx (by rw [← e]; exact hb)⟩
       ·rcases hb with (hb | hb) | hb
        ·exact (S4.out b hb).1
        ·have := (S6.out b hb).1
         have h8 : w4.drew.heap.size = w4.heap.size := rfl
         omega
        ·omega
       ·rcases hb with (hb | hb) | hb
        ·have := (S4.out b hb).2.1; omega
        ·have := (S6.out b hb).2; omega
        ·omega)
      have hlf : r2.length ≤ r'.length := by
       have := (expr_left f2).1 o2 d r'
       rw [hu] at this
       exact this
      have hl7 := P7.out.lenW
      have hl3' := hl3.out
      clear X6 Z6 R6 TX6 TY6 S6 M6 P6 TX7 TY7 fr0 fr1 fr2 fr3 fr4 fr5 fr6 fr7 fr8 fr9 fr10 y0 y1 y2 y3 y4 y5 y6 y7 y8 y9 y10
      unfold set11 nv sv at hw7
      rw [← hw7]
      clear hw7
      go_roundw
      case rel => exact ⟨_, _, _, _, _, _, _, _, _, _, _, _, _, _, _, _, _, _, _, _, _, _, _, ⟨f2, .bin o1 x' y, r2, _, _, by omega, HR5, B7, T7, S7, P7, M7, Z7⟩, rfl⟩
      case measure => omega
end Go.Proofs.YtnbmpfdffoidaaaGreat.Y
namespace Go.Proofs.YtnbmpfdffoidaaaGreat.Y
open Go.RowKit O V S X
def G1 (lo b1 : Nat) (cs : Array Value) (y : Ex) (w' : World) : Prop := ∃ us S rb, w'.heap[b1]? = some (.cells (cs.setIfInBounds 7 (.slice (some ⟨rb, 0, none⟩) 1 1)) 43 (0, 0)) ∧ w'.heap[rb]? = some (.cells us.toArray 43 (0, 0)) ∧ ExR w' S y us ∧ (∀ b, S b → lo ≤ b ∧ b < w'.heap.size) ∧ lo ≤ rb
theorem G1.more {lo lo' b1 : Nat} {cs : Array Value} {y : Ex} {w : World} (h : G1 lo b1 cs y w) (hl : lo' ≤ lo) : G1 lo' b1 cs y w := by
 obtain ⟨us, S, rb, e1, e2, e3, e4, e5⟩ := h
 exact ⟨us, S, rb, e1, e2, e3, fun b hb => ⟨Nat.le_trans hl (e4 b hb).1, (e4 b hb).2⟩, Nat.le_trans hl e5⟩
theorem Out.imp {α : Type} {bs : List Nat} {g d : Nat} {w : World} {R : Res α} {good good' : α → World → Value → Prop} {e : Ending} {w' : World} (h : Out bs g d w R good e w') (hi : ∀ a w' v, good a w' v → good' a w' v) : Out bs g d w R good' e w' := by
 refine ⟨h.1, ?_⟩
 have h2 := h.2
 cases R with
 | oof => exact h2
 | bad => exact h2
 | ok a l =>
  obtain ⟨p, v, e, hg⟩ := h2
  exact ⟨p, v, e, hi _ _ _ hg⟩
theorem unary1_any (f : Nat) (hU : UC f) (g d b0 b1 : Nat) (l : List Tok) (cs : Array Value) (w : World) (h : Ps w g d l) (hd : d ≤ 16) (hno : pUnary f d l ≠ .oof) (h0 : w.heap[b0]? = some (.cells #[.pointer (some ⟨g, 0, none⟩)] 61 (0, 0))) (h1 : w.heap[b1]? = some (.cells cs 43 (0, 0))) (hc : 7 < cs.size) (hg1 : g < b1) :
  Calls Tryz.prog 125 #[.pointer (some ⟨b0, 0, none⟩), .pointer (some ⟨b1, 0, none⟩)] w (Out [g, b1] g d w (pUnary f d l) fun y w' v => v = .tuple #[] ∧ G1 w.heap.size b1 cs y w') := by
 have HU := Lib.hid (hU g d l w h hd hno)
 have hlt := h.lt
 have hlt1 : b1 < w.heap.size := (Array.getElem?_eq_some_iff.1 h1).1
 have H1 := Lib.hid h1
 have x0 : w.cell? ⟨b0, 0, none⟩ = some (.pointer (some ⟨g, 0, none⟩)) := by rw [Lib.cell_of_heap h0]; rfl
 obtain ⟨RT, hRT⟩ : ∃ RT, pUnary f d l = RT := ⟨_, rfl⟩
 rw [hRT] at hno ⊢
 have HRT := Lib.hid hRT
 clear hU h h0 h1 hno hRT
 go_enter Tryz.func125, Tryz.ntmps125
 go_wp2_with fail
 refine HU.out.mono ?_; rintro e w1 ⟨m1, h1⟩
 rw [HRT.out] at h1
 have M1 := Lib.hid (m1.more (cs := [g, b1]) (fun x hx => .inl (by simp at hx; simp [hx])))
 have X1 := Lib.hid (m1.box H1.out (by simp; omega))
 have hs1 := m1.size
 clear m1
 cases RT with
 | oof => exact h1.elim
 | bad =>
  obtain ⟨er, ep, eq, ez, hne, rfl⟩ := h1
  have HN := Lib.hid hne
  clear hne
  go_wp2_with fail
  exact ⟨rfl, M1.out, er, ep, eq, ez, HN.out, rfl⟩
 | ok y r =>
  obtain ⟨p1, v, rfl, vs, S, rfl, hx, hS⟩ := h1
  obtain ⟨A, n, c, p, q, z, rfl⟩ := hx.form
  have P1 := Lib.hid p1
  have X := Lib.hid hx
  have S1 := Lib.hid hS
  have hv : Value.agg (exC y (.slice A n c) p q z).toArray = .agg #[nv (hdK y), nv (hdV y).k, nv (hdV y).n, sv (hdV y).s, sv (hdN y), sv (hdC y), nv (hdO y : Nat), .slice A n c, nv p, nv q, nv z] := rfl
  rw [hv]
  have hcell : ∃ v, w1.cell? ⟨b1, 7, none⟩ = some v := ⟨cs[7], by rw [Lib.cell_of_heap X1.out]; simp [hc]⟩
  obtain ⟨v7, hcell⟩ := hcell
  have hfr : w1.frozen? ⟨b1, 7, none⟩ = false := Lib.frozen_of_heap X1.out 7
  have hb1 : b1 < w1.heap.size := by omega
  clear hv p1 hx hS
  go_wp2_with fail
  go_end0
  refine ⟨(M1.out.set (.inl (by simp)) _).alloc _, (P1.out.set hg1 _).alloc _, _, rfl, rfl, exC y (.slice A n c) p q z, S, w1.heap.size, alloc_old' (heap_set X1.out _), alloc_at (by simp), ExR.keep (fun b hb => ?_) _ _ X.out, fun b hb => ?_, hs1⟩
  ·have := S1.out b hb
   rw [Below.heap_alloc _ _ _ (by simp; omega), Below.heap_setCell _ _ _ _ (by simp only; omega)]
  ·have := S1.out b hb
   simp
   omega
def zeroX : Array Value := #[nv 0, nv 0, nv 0, sv [], sv [], sv [], nv 0, .slice none 0 0, nv 0, nv 0, nv 0]
theorem pUnary_succ (f d : Nat) (l : List Tok) : pUnary (f + 1) d l = if isT l [33] then (if d = 16 then .bad else (pUnary f (d + 1) l.tail).bind fun x r => .ok (.un 13 x) r) else if isT l [45] then (if d = 16 then .bad else (pUnary f (d + 1) l.tail).bind fun x r => .ok (.un 14 x) r) else pOperand f d l := by rw [pUnary]
theorem unary_step (f : Nat) (hU : UC f) (hO : OC f) : UC (f + 1) := by
  intro g d l w h hd hno
  obtain ⟨RT, hRT⟩ : ∃ RT, pUnary (f + 1) d l = RT := ⟨_, rfl⟩
  rw [hRT] at hno ⊢
  rw [pUnary_succ] at hRT
  have HRT := Lib.hid hRT
  have HNO := Lib.hid hno
  have HS := Lib.hid h
  have hlt := h.lt
  clear hRT hno h
  have HU := Lib.hid hU
  have HO := Lib.hid hO
  clear hU hO
  have hmf : ∀ (fn : Fn) (first cap : Array Value) (w : World), (Instr.makeFunc fn first cap).run Tryz.prog w = .ok (.func fn first cap) w := fun _ _ _ _ => rfl
  have HA : Hid (Below w.heap.size w ((w.alloc (.cells #[.pointer (some ⟨g, 0, none⟩)] 61)).alloc (.cells #[nv 0, nv 0, nv 0, sv [], sv [], sv [], nv 0, .slice none 0 0, nv 0, nv 0, nv 0] 43))) := Lib.hid (by repeat (first | exact Below.refl _ _ | refine Below.alloc ?_ (by simp <;> omega) _))
  have HB0 : Hid (((w.alloc (.cells #[.pointer (some ⟨g, 0, none⟩)] 61)).alloc (.cells #[nv 0, nv 0, nv 0, sv [], sv [], sv [], nv 0, .slice none 0 0, nv 0, nv 0, nv 0] 43)).heap[w.heap.size]? = some (.cells #[.pointer (some ⟨g, 0, none⟩)] 61 (0, 0))) := Lib.hid (alloc_old' (alloc_at rfl))
  have HB1 : Hid (((w.alloc (.cells #[.pointer (some ⟨g, 0, none⟩)] 61)).alloc (.cells #[nv 0, nv 0, nv 0, sv [], sv [], sv [], nv 0, .slice none 0 0, nv 0, nv 0, nv 0] 43)).heap[w.heap.size + 1]? = some (.cells #[nv 0, nv 0, nv 0, sv [], sv [], sv [], nv 0, .slice none 0 0, nv 0, nv 0, nv 0] 43 (0, 0))) := Lib.hid (alloc_at (by simp))
  have hz2 : ((w.alloc (.cells #[.pointer (some ⟨g, 0, none⟩)] 61)).alloc (.cells #[nv 0, nv 0, nv 0, sv [], sv [], sv [], nv 0, .slice none 0 0, nv 0, nv 0, nv 0] 43)).heap.size = w.heap.size + 2 := by simp
  cases h33 : isT l [33] with
  | false =>
    have HR1 := HRT.out
    rw [h33] at HR1
    simp only [Bool.false_eq_true, if_false] at HR1
    cases h45 : isT l [45] with
    | false =>
      rw [h45] at HR1
      simp only [Bool.false_eq_true, if_false] at HR1
      have hno1 := HNO.out
      rw [← HR1] at hno1
      have HR2 := Lib.hid HR1
      clear HR1 HRT
      go_enter Tryz.func122, Tryz.ntmps122
      go_wp2_with fail
      have HP2 := Lib.hid (HS.out.next HA.out)
      obtain ⟨w2, hw2⟩ : ∃ w2, ((w.alloc (.cells #[.pointer (some ⟨g, 0, none⟩)] 61)).alloc (.cells #[nv 0, nv 0, nv 0, sv [], sv [], sv [], nv 0, .slice none 0 0, nv 0, nv 0, nv 0] 43)) = w2 := ⟨_, rfl⟩
      rw [hw2] at HA HB0 HB1 hz2 HP2 ⊢
      clear hw2
      have q0 : w2.cell? ⟨w.heap.size, 0, none⟩ = some (.pointer (some ⟨g, 0, none⟩)) := by rw [Lib.cell_of_heap HB0.out]; rfl
      refine (is_any g d l [33] _ HP2.out).mono ?_; rintro e w3 ⟨rfl, rfl⟩
      rw [h33]
      go_wp2_with fail
      refine (is_any g d l [45] _ HP2.out).mono ?_; rintro e w4 ⟨rfl, rfl⟩
      rw [h45]
      go_wp2_with fail
      refine (HO.out g d l _ HP2.out hd hno1).mono ?_; rintro e w5 ⟨m5, h5⟩
      rw [HR2.out] at h5
      have hb1 := m5.box HB1.out (by simp; omega)
      obtain ⟨⟨⟨⟨y0, y1⟩, y2, y3⟩, ⟨y4, y5⟩, y6, y7⟩, ⟨y8, y9⟩, y10⟩ := cells11 hb1
      obtain ⟨⟨⟨⟨fr0, fr1⟩, fr2, fr3⟩, ⟨fr4, fr5⟩, fr6, fr7⟩, ⟨fr8, fr9⟩, fr10⟩ := frozen11 hb1
      have M5 : Hid (Mod [g] w w5) := Lib.hid ((Mod.of_below HA.out).then m5)
      clear m5 hno1 HR2
      cases RT with
      | oof => exact h5.elim
      | bad =>
        obtain ⟨er, ep, eq, ez, hne, rfl⟩ := h5
        have HN := Lib.hid hne
        clear hne
        go_wp2_with fail
        exact ⟨rfl, M5.out, er, ep, eq, ez, HN.out, rfl⟩
      | ok y r =>
        obtain ⟨p5, v, rfl, vs, S, rfl, hx, hS⟩ := h5
        obtain ⟨A, n, c, p, q, z, rfl⟩ := hx.form
        have P5 := Lib.hid p5
        have X := Lib.hid hx
        have S5 := Lib.hid hS
        have hv : Value.agg (exC y (.slice A n c) p q z).toArray = .agg #[nv (hdK y), nv (hdV y).k, nv (hdV y).n, sv (hdV y).s, sv (hdN y), sv (hdC y), nv (hdO y : Nat), .slice A n c, nv p, nv q, nv z] := rfl
        rw [hv]
        clear hv p5 hx hS hb1
        go_wp2_with fail
        refine bodyPost_ret (v := .agg #[nv (hdK y), nv (hdV y).k, nv (hdV y).n, sv (hdV y).s, sv (hdN y), sv (hdC y), nv (hdO y : Nat), .slice A n c, nv p, nv q, nv z]) (by simp [results, Tryz.results122, go_sem, y0, y1, y2, y3, y4, y5, y6, y7, y8, y9, y10]) rfl ?_
        have hns : ¬ S (w.heap.size + 1) := fun hh => by have := S5.out _ hh; omega
        refine ⟨?_, ?_, _, rfl, exC y (.slice A n c) p q z, S, rfl, ?_, ?_⟩
        · repeat (first | (with_reducible exact M5.out) | refine Mod.set ?_ (.inr (Nat.le_succ _)) _)
        · repeat (first | (with_reducible exact P5.out) | refine Ps.set ?_ (Nat.lt_succ_of_lt hlt) _)
        · repeat (first | (with_reducible exact X.out) | refine ExR.set ?_ hns _)
        · intro b hb
          have := S5.out b hb
          simp
          omega
    | true =>
      rw [h45] at HR1
      simp only [if_true] at HR1
      have HR2 := Lib.hid HR1
      have hi2 := h45
      clear HR1 HRT
      go_enter Tryz.func122, Tryz.ntmps122
      go_wp2_with fail
      have HP2 := Lib.hid (HS.out.next HA.out)
      obtain ⟨w2, hw2⟩ : ∃ w2, ((w.alloc (.cells #[.pointer (some ⟨g, 0, none⟩)] 61)).alloc (.cells #[nv 0, nv 0, nv 0, sv [], sv [], sv [], nv 0, .slice none 0 0, nv 0, nv 0, nv 0] 43)) = w2 := ⟨_, rfl⟩
      rw [hw2] at HA HB0 HB1 hz2 HP2 ⊢
      clear hw2
      have q0 : w2.cell? ⟨w.heap.size, 0, none⟩ = some (.pointer (some ⟨g, 0, none⟩)) := by rw [Lib.cell_of_heap HB0.out]; rfl
      refine (is_any g d l [33] _ HP2.out).mono ?_; rintro e w3 ⟨rfl, rfl⟩
      rw [h33]
      go_wp2_with fail
      refine (is_any g d l [45] _ HP2.out).mono ?_; rintro e w4 ⟨rfl, rfl⟩
      rw [h45]
      go_wp2_with fail
      refine (here_any g d l _ HP2.out).mono ?_; rintro e w5 ⟨⟨p, q, z, rfl⟩, b5⟩
      have hb1 := box_next HB1.out b5
      obtain ⟨⟨⟨⟨y0, y1⟩, y2, y3⟩, ⟨y4, y5⟩, y6, y7⟩, ⟨y8, y9⟩, y10⟩ := cells11 hb1
      obtain ⟨⟨⟨⟨fr0, fr1⟩, fr2, fr3⟩, ⟨fr4, fr5⟩, fr6, fr7⟩, ⟨fr8, fr9⟩, fr10⟩ := frozen11 hb1
      have q05 : w5.cell? ⟨w.heap.size, 0, none⟩ = some (.pointer (some ⟨g, 0, none⟩)) := by rw [Lib.cell_of_heap (box_next HB0.out b5)]; rfl
      have HB05 := Lib.hid (box_next HB0.out b5)
      have HP5 := Lib.hid (HP2.out.next b5)
      have HA5 := Lib.hid (bthen HA.out b5)
      have hs5 := b5.size
      have HB15 := Lib.hid hb1
      clear b5 q0 HB0 HB1 HP2 HA hb1
      go_wp2_with fail
      obtain ⟨w6, hw6⟩ : ∃ w6, w6 = set11 w5 (w.heap.size + 1) (nv 7) (nv 0) (nv 0) (sv []) (sv []) (sv []) (nv 14) (.slice none 0 0) (nv p) (nv q) (nv z) := ⟨_, rfl⟩
      have HB6 : Hid (w6.heap[w.heap.size + 1]? = some (.cells #[nv 7, nv 0, nv 0, sv [], sv [], sv [], nv 14, .slice none 0 0, nv p, nv q, nv z] 43 (0, 0))) := Lib.hid (by
        rw [hw6]
        exact set11_box (vs := [nv 0, nv 0, nv 0, sv [], sv [], sv [], nv 0, .slice none 0 0, nv 0, nv 0, nv 0]) HB15.out rfl)
      have hk6 : ∀ k, k ≠ w.heap.size + 1 → w6.heap[k]? = w5.heap[k]? := fun k hk => by
        rw [hw6]
        exact set11_other hk
      have hz6 : w6.heap.size = w5.heap.size := by rw [hw6]; exact set11_size
      have HP6 := Lib.hid (HP5.out.keep (w' := w6) fun b hb => hk6 b (by omega))
      have HA6 : Hid (Mod [g] w w6) := Lib.hid ((Mod.of_below HA5.out).trans (cs := [w.heap.size + 1]) (by rw [hw6]; exact set11_mod) (fun x hx => .inr (by simp at hx; omega)))
      have HB06 := Lib.hid ((hk6 w.heap.size (by omega)).trans HB05.out)
      unfold set11 nv sv at hw6
      rw [← hw6]
      clear hw6 y0 y1 y2 y3 y4 y5 y6 y7 y8 y9 y10 fr0 fr1 fr2 fr3 fr4 fr5 fr6 fr7 fr8 fr9 fr10 q05 HB05 HB15 HP5 HA5 hk6
      have hl : l ≠ [] := by rintro rfl; cases hi2
      have hc1 := Tryz.call125
      have hRR : (if d = 16 then Res.bad else pUnary f (d + 1) l.tail).bind (fun x r => Res.ok (Ex.un 14 x) r) = RT := by
        have := HR2.out
        split
        · rename_i h16; rw [if_pos h16] at this; exact this
        · rename_i h16; rw [if_neg h16] at this; exact this
      have HRR := Lib.hid hRR
      have hnn : d < 16 → pUnary f (d + 1) l.tail ≠ .oof := fun h16 => by
        have := HR2.out
        rw [if_neg (by omega)] at this
        exact bind_no this HNO.out
      have HNN := Lib.hid hnn
      clear hRR hnn
      refine (within_any (α := Ex) g d l 125 #[.pointer (some ⟨w.heap.size, 0, none⟩), .pointer (some ⟨w.heap.size + 1, 0, none⟩)] [g, w.heap.size + 1] (pUnary f (d + 1) l.tail) (G1 w6.heap.size (w.heap.size + 1) #[nv 7, nv 0, nv 0, sv [], sv [], sv [], nv 14, .slice none 0 0, nv p, nv q, nv z]) w6 HP6.out hl hd (by simp) hc1 (fun hd2 W mW pW => ?_)).mono ?_
      · refine (unary1_any f HU.out g (d + 1) w.heap.size (w.heap.size + 1) l.tail #[nv 7, nv 0, nv 0, sv [], sv [], sv [], nv 14, .slice none 0 0, nv p, nv q, nv z] W pW hd2 (HNN.out hd2) (mW.box HB06.out (by simp; omega)) (mW.box HB6.out (by simp; omega)) (by simp) (by omega)).mono fun e w' ho => ho.imp fun y W' v hg => ⟨hg.1, hg.2.more mW.size⟩
      rintro e w7 ⟨m7, h7⟩
      generalize (if d = 16 then Res.bad else pUnary f (d + 1) l.tail) = R7 at *
      have M7 : Hid (Mod [g] w w7) := Lib.hid (HA6.out.trans m7 (fun x hx => by simp at hx; rcases hx with rfl | rfl; · exact .inl (by simp)
                                                                                · exact .inr (by omega)))
      clear m7
      cases R7 with
      | oof => exact h7.elim
      | bad =>
        obtain ⟨er, ep, eq, ez, hne, rfl⟩ := h7
        have HN := Lib.hid hne
        clear hne
        have hq := HRR.out
        simp only [bind_bad, bind_ok] at hq
        subst hq
        go_wp2_with fail
        exact ⟨rfl, M7.out, er, ep, eq, ez, HN.out, rfl⟩
      | ok y r =>
        obtain ⟨p7, v, rfl, rfl, W7, ⟨us, S, rb, e1, e2, e3, e4, e5⟩, m8⟩ := h7
        have hq := HRR.out
        simp only [bind_ok] at hq
        subst hq
        have P7 := Lib.hid p7
        have hrb : rb < W7.heap.size := (Array.getElem?_eq_some_iff.1 e2).1
        have HB7 : Hid (w7.heap[w.heap.size + 1]? = some (.cells #[nv 7, nv 0, nv 0, sv [], sv [], sv [], nv 14, .slice (some ⟨rb, 0, none⟩) 1 1, nv p, nv q, nv z] 43 (0, 0))) := Lib.hid (m8.box e1 (by simp; omega))
        have R7 := Lib.hid (m8.box e2 (by simp; omega))
        have X7 : Hid (ExR w7 S y us) := Lib.hid (ExR.keep (fun b hb => m8.block b (e4 b hb).2 (by have := e4 b hb; simp; omega)) _ _ e3)
        have S7 : Hid (∀ b, S b → w6.heap.size ≤ b ∧ b < w7.heap.size) := Lib.hid (fun b hb => ⟨(e4 b hb).1, Nat.lt_of_lt_of_le (e4 b hb).2 m8.size⟩)
        have hrb7 : rb < w7.heap.size := Nat.lt_of_lt_of_le hrb m8.size
        have hul := ExR.size _ _ e3
        clear p7 e1 e2 e3 e4 m8 hrb
        obtain ⟨⟨⟨⟨y0, y1⟩, y2, y3⟩, ⟨y4, y5⟩, y6, y7⟩, ⟨y8, y9⟩, y10⟩ := cells11 HB7.out
        obtain ⟨⟨⟨⟨fr0, fr1⟩, fr2, fr3⟩, ⟨fr4, fr5⟩, fr6, fr7⟩, ⟨fr8, fr9⟩, fr10⟩ := frozen11 HB7.out
        go_wp2_with fail
        refine bodyPost_ret (v := .agg #[nv 7, nv 0, nv 0, sv [], sv [], sv [], nv 14, .slice (some ⟨rb, 0, none⟩) 1 1, nv p, nv q, nv z]) (by simp [results, Tryz.results122, go_sem, y0, y1, y2, y3, y4, y5, y6, y7, y8, y9, y10]) rfl ?_
        have hns : ¬ (S (w.heap.size + 1) ∨ w.heap.size + 1 = rb) := by
          rintro (hh | hh)
          · have := S7.out _ hh; omega
          · omega
        refine ⟨?_, ?_, _, rfl, exC (.un 14 y) (.slice (some ⟨rb, 0, none⟩) 1 1) p q z, fun b => S b ∨ b = rb, rfl, ?_, ?_⟩
        · repeat (first | (with_reducible exact M7.out) | refine Mod.set ?_ (.inr (Nat.le_succ _)) _)
        · repeat (first | (with_reducible exact P7.out) | refine Ps.set ?_ (Nat.lt_succ_of_lt hlt) _)
        · have hX : ExR w7 (fun b => S b ∨ b = rb) (.un 14 y) (exC (.un 14 y) (.slice (some ⟨rb, 0, none⟩) 1 1) p q z) := ExR.one rfl rfl (Row.of_block R7.out (.inr rfl) (by rw [hul]) (by omega) (by omega)) (ExR.mono (fun b hb => .inl hb) _ _ X7.out)
          repeat (first | (with_reducible exact hX) | refine ExR.set ?_ hns _)
        · intro b hb
          have : w.heap.size ≤ b ∧ b < w7.heap.size := by
            rcases hb with hb | hb
            · have := S7.out b hb; omega
            · omega
          simp
          omega
  | true =>
    have HR1 := HRT.out
    rw [h33] at HR1
    simp only [if_true] at HR1
    have HR2 := Lib.hid HR1
    have hi2 := h33
    clear HR1 HRT
    go_enter Tryz.func122, Tryz.ntmps122
    go_wp2_with fail
    have HP2 := Lib.hid (HS.out.next HA.out)
    obtain ⟨w2, hw2⟩ : ∃ w2, ((w.alloc (.cells #[.pointer (some ⟨g, 0, none⟩)] 61)).alloc (.cells #[nv 0, nv 0, nv 0, sv [], sv [], sv [], nv 0, .slice none 0 0, nv 0, nv 0, nv 0] 43)) = w2 := ⟨_, rfl⟩
    rw [hw2] at HA HB0 HB1 hz2 HP2 ⊢
    clear hw2
    have q0 : w2.cell? ⟨w.heap.size, 0, none⟩ = some (.pointer (some ⟨g, 0, none⟩)) := by rw [Lib.cell_of_heap HB0.out]; rfl
    refine (is_any g d l [33] _ HP2.out).mono ?_; rintro e w4 ⟨rfl, rfl⟩
    rw [h33]
    go_wp2_with fail
    refine (here_any g d l _ HP2.out).mono ?_; rintro e w5 ⟨⟨p, q, z, rfl⟩, b5⟩
    have hb1 := box_next HB1.out b5
    obtain ⟨⟨⟨⟨y0, y1⟩, y2, y3⟩, ⟨y4, y5⟩, y6, y7⟩, ⟨y8, y9⟩, y10⟩ := cells11 hb1
    obtain ⟨⟨⟨⟨fr0, fr1⟩, fr2, fr3⟩, ⟨fr4, fr5⟩, fr6, fr7⟩, ⟨fr8, fr9⟩, fr10⟩ := frozen11 hb1
    have q05 : w5.cell? ⟨w.heap.size, 0, none⟩ = some (.pointer (some ⟨g, 0, none⟩)) := by rw [Lib.cell_of_heap (box_next HB0.out b5)]; rfl
    have HB05 := Lib.hid (box_next HB0.out b5)
    have HP5 := Lib.hid (HP2.out.next b5)
    have HA5 := Lib.hid (bthen HA.out b5)
    have hs5 := b5.size
    have HB15 := Lib.hid hb1
    clear b5 q0 HB0 HB1 HP2 HA hb1
    go_wp2_with fail
    obtain ⟨w6, hw6⟩ : ∃ w6, w6 = set11 w5 (w.heap.size + 1) (nv 7) (nv 0) (nv 0) (sv []) (sv []) (sv []) (nv 13) (.slice none 0 0) (nv p) (nv q) (nv z) := ⟨_, rfl⟩
    have HB6 : Hid (w6.heap[w.heap.size + 1]? = some (.cells #[nv 7, nv 0, nv 0, sv [], sv [], sv [], nv 13, .slice none 0 0, nv p, nv q, nv z] 43 (0, 0))) := Lib.hid (by
      rw [hw6]
      exact set11_box (vs := [nv 0, nv 0, nv 0, sv [], sv [], sv [], nv 0, .slice none 0 0, nv 0, nv 0, nv 0]) HB15.out rfl)
    have hk6 : ∀ k, k ≠ w.heap.size + 1 → w6.heap[k]? = w5.heap[k]? := fun k hk => by
      rw [hw6]
      exact set11_other hk
    have hz6 : w6.heap.size = w5.heap.size := by rw [hw6]; exact set11_size
    have HP6 := Lib.hid (HP5.out.keep (w' := w6) fun b hb => hk6 b (by omega))
    have HA6 : Hid (Mod [g] w w6) := Lib.hid ((Mod.of_below HA5.out).trans (cs := [w.heap.size + 1]) (by rw [hw6]; exact set11_mod) (fun x hx => .inr (by simp at hx; omega)))
    have HB06 := Lib.hid ((hk6 w.heap.size (by omega)).trans HB05.out)
    unfold set11 nv sv at hw6
    rw [← hw6]
    clear hw6 y0 y1 y2 y3 y4 y5 y6 y7 y8 y9 y10 fr0 fr1 fr2 fr3 fr4 fr5 fr6 fr7 fr8 fr9 fr10 q05 HB05 HB15 HP5 HA5 hk6
    have hl : l ≠ [] := by rintro rfl; cases hi2
    have hc1 := Tryz.call125
    have hRR : (if d = 16 then Res.bad else pUnary f (d + 1) l.tail).bind (fun x r => Res.ok (Ex.un 13 x) r) = RT := by
      have := HR2.out
      split
      · rename_i h16; rw [if_pos h16] at this; exact this
      · rename_i h16; rw [if_neg h16] at this; exact this
    have HRR := Lib.hid hRR
    have hnn : d < 16 → pUnary f (d + 1) l.tail ≠ .oof := fun h16 => by
      have := HR2.out
      rw [if_neg (by omega)] at this
      exact bind_no this HNO.out
    have HNN := Lib.hid hnn
    clear hRR hnn
    refine (within_any (α := Ex) g d l 125 #[.pointer (some ⟨w.heap.size, 0, none⟩), .pointer (some ⟨w.heap.size + 1, 0, none⟩)] [g, w.heap.size + 1] (pUnary f (d + 1) l.tail) (G1 w6.heap.size (w.heap.size + 1) #[nv 7, nv 0, nv 0, sv [], sv [], sv [], nv 13, .slice none 0 0, nv p, nv q, nv z]) w6 HP6.out hl hd (by simp) hc1 (fun hd2 W mW pW => ?_)).mono ?_
    · refine (unary1_any f HU.out g (d + 1) w.heap.size (w.heap.size + 1) l.tail #[nv 7, nv 0, nv 0, sv [], sv [], sv [], nv 13, .slice none 0 0, nv p, nv q, nv z] W pW hd2 (HNN.out hd2) (mW.box HB06.out (by simp; omega)) (mW.box HB6.out (by simp; omega)) (by simp) (by omega)).mono fun e w' ho => ho.imp fun y W' v hg => ⟨hg.1, hg.2.more mW.size⟩
    rintro e w7 ⟨m7, h7⟩
    generalize (if d = 16 then Res.bad else pUnary f (d + 1) l.tail) = R7 at *
    have M7 : Hid (Mod [g] w w7) := Lib.hid (HA6.out.trans m7 (fun x hx => by simp at hx; rcases hx with rfl | rfl; · exact .inl (by simp)
                                                                              · exact .inr (by omega)))
    clear m7
    cases R7 with
    | oof => exact h7.elim
    | bad =>
      obtain ⟨er, ep, eq, ez, hne, rfl⟩ := h7
      have HN := Lib.hid hne
      clear hne
      have hq := HRR.out
      simp only [bind_bad, bind_ok] at hq
      subst hq
      go_wp2_with fail
      exact ⟨rfl, M7.out, er, ep, eq, ez, HN.out, rfl⟩
    | ok y r =>
      obtain ⟨p7, v, rfl, rfl, W7, ⟨us, S, rb, e1, e2, e3, e4, e5⟩, m8⟩ := h7
      have hq := HRR.out
      simp only [bind_ok] at hq
      subst hq
      have P7 := Lib.hid p7
      have hrb : rb < W7.heap.size := (Array.getElem?_eq_some_iff.1 e2).1
      have HB7 : Hid (w7.heap[w.heap.size + 1]? = some (.cells #[nv 7, nv 0, nv 0, sv [], sv [], sv [], nv 13, .slice (some ⟨rb, 0, none⟩) 1 1, nv p, nv q, nv z] 43 (0, 0))) := Lib.hid (m8.box e1 (by simp; omega))
      have R7 := Lib.hid (m8.box e2 (by simp; omega))
      have X7 : Hid (ExR w7 S y us) := Lib.hid (ExR.keep (fun b hb => m8.block b (e4 b hb).2 (by have := e4 b hb; simp; omega)) _ _ e3)
      have S7 : Hid (∀ b, S b → w6.heap.size ≤ b ∧ b < w7.heap.size) := Lib.hid (fun b hb => ⟨(e4 b hb).1, Nat.lt_of_lt_of_le (e4 b hb).2 m8.size⟩)
      have hrb7 : rb < w7.heap.size := Nat.lt_of_lt_of_le hrb m8.size
      have hul := ExR.size _ _ e3
      clear p7 e1 e2 e3 e4 m8 hrb
      obtain ⟨⟨⟨⟨y0, y1⟩, y2, y3⟩, ⟨y4, y5⟩, y6, y7⟩, ⟨y8, y9⟩, y10⟩ := cells11 HB7.out
      obtain ⟨⟨⟨⟨fr0, fr1⟩, fr2, fr3⟩, ⟨fr4, fr5⟩, fr6, fr7⟩, ⟨fr8, fr9⟩, fr10⟩ := frozen11 HB7.out
      go_wp2_with fail
      refine bodyPost_ret (v := .agg #[nv 7, nv 0, nv 0, sv [], sv [], sv [], nv 13, .slice (some ⟨rb, 0, none⟩) 1 1, nv p, nv q, nv z]) (by simp [results, Tryz.results122, go_sem, y0, y1, y2, y3, y4, y5, y6, y7, y8, y9, y10]) rfl ?_
      have hns : ¬ (S (w.heap.size + 1) ∨ w.heap.size + 1 = rb) := by
        rintro (hh | hh)
        · have := S7.out _ hh; omega
        · omega
      refine ⟨?_, ?_, _, rfl, exC (.un 13 y) (.slice (some ⟨rb, 0, none⟩) 1 1) p q z, fun b => S b ∨ b = rb, rfl, ?_, ?_⟩
      · repeat (first | (with_reducible exact M7.out) | refine Mod.set ?_ (.inr (Nat.le_succ _)) _)
      · repeat (first | (with_reducible exact P7.out) | refine Ps.set ?_ (Nat.lt_succ_of_lt hlt) _)
      · have hX : ExR w7 (fun b => S b ∨ b = rb) (.un 13 y) (exC (.un 13 y) (.slice (some ⟨rb, 0, none⟩) 1 1) p q z) := ExR.one rfl rfl (Row.of_block R7.out (.inr rfl) (by rw [hul]) (by omega) (by omega)) (ExR.mono (fun b hb => .inl hb) _ _ X7.out)
        repeat (first | (with_reducible exact hX) | refine ExR.set ?_ hns _)
      · intro b hb
        have : w.heap.size ≤ b ∧ b < w7.heap.size := by
          rcases hb with hb | hb
          · have := S7.out b hb; omega
          · omega
        simp
        omega
end Go.Proofs.YtnbmpfdffoidaaaGreat.Y
namespace Go.Proofs.YtnbmpfdffoidaaaGreat.Y
open Go.RowKit O V S X
def GX (lo b1 : Nat) (x : Ex) (w' : World) : Prop := ∃ vs S, w'.heap[b1]? = some (.cells vs.toArray 43 (0, 0)) ∧ ExR w' S x vs ∧ ∀ b, S b → lo ≤ b ∧ b < w'.heap.size
theorem GX.more {lo lo' b1 : Nat} {x : Ex} {w : World} (h : GX lo b1 x w) (hl : lo' ≤ lo) : GX lo' b1 x w := by
 obtain ⟨vs, S, e1, e2, e3⟩ := h
 exact ⟨vs, S, e1, e2, fun b hb => ⟨Nat.le_trans hl (e3 b hb).1, (e3 b hb).2⟩⟩
theorem GX.mod {lo b1 g : Nat} {x : Ex} {w w' : World} (h : GX lo b1 x w) (m : Mod [g] w w') (hg : g ≠ b1) (hl : g < lo) : GX lo b1 x w' := by
 obtain ⟨vs, S, e1, e2, e3⟩ := h
 exact ⟨vs, S, m.box e1 (by simp; omega), ExR.keep (fun b hb => m.block b (e3 b hb).2 (by have := e3 b hb; simp; omega)) _ _ e2, fun b hb => ⟨(e3 b hb).1, Nat.lt_of_lt_of_le (e3 b hb).2 m.size⟩⟩
theorem around_no {α : Type} {a b : List UInt8} {d : Nat} {l : List Tok} {k : Nat → List Tok → Res α} (h : Y.around a b d l k ≠ .oof) (hi : isT l a = true) (hd : d < 16) : k (d + 1) l.tail ≠ .oof := by
 unfold Y.around at h
 rw [if_pos hi, if_neg (by omega)] at h
 rintro e
 rw [e] at h
 exact h rfl
theorem key1_any (f : Nat) (hE : EC f) (g d b0 b1 : Nat) (l : List Tok) (z0 z1 z2 z3 z4 z5 z6 z7 z8 z9 z10 : Value) (w : World) (h : Ps w g d l) (hd : d ≤ 16) (hno : pExpr f 0 d l ≠ .oof) (h0 : w.heap[b0]? = some (.cells #[.pointer (some ⟨g, 0, none⟩)] 61 (0, 0))) (h1 : w.heap[b1]? = some (.cells #[z0, z1, z2, z3, z4, z5, z6, z7, z8, z9, z10] 43 (0, 0))) (hg1 : g < b1) :
  Calls Tryz.prog 121 #[.pointer (some ⟨b0, 0, none⟩), .pointer (some ⟨b1, 0, none⟩)] w (Out [g, b1] g d w (pExpr f 0 d l) fun x w' v => v = .tuple #[] ∧ GX w.heap.size b1 x w') := by
 have HU := Lib.hid (hE g d 0 l w h hd hno)
 have hlt1 : b1 < w.heap.size := (Array.getElem?_eq_some_iff.1 h1).1
 have H1 := Lib.hid h1
 have x0 : w.cell? ⟨b0, 0, none⟩ = some (.pointer (some ⟨g, 0, none⟩)) := by rw [Lib.cell_of_heap h0]; rfl
 obtain ⟨RT, hRT⟩ : ∃ RT, pExpr f 0 d l = RT := ⟨_, rfl⟩
 rw [hRT] at hno ⊢
 have HRT := Lib.hid hRT
 clear hE h h0 h1 hno hRT
 go_enter Tryz.func121, Tryz.ntmps121
 go_wp2_with fail
 refine HU.out.mono ?_; rintro e w1 ⟨m1, h1⟩
 rw [HRT.out] at h1
 have M1 := Lib.hid (m1.more (cs := [g, b1]) (fun x hx => .inl (by simp at hx; simp [hx])))
 have X1 := Lib.hid (m1.box H1.out (by simp; omega))
 have hs1 := m1.size
 clear m1
 cases RT with
 | oof => exact h1.elim
 | bad =>
  obtain ⟨er, ep, eq, ez, hne, rfl⟩ := h1
  have HN := Lib.hid hne
  clear hne
  go_wp2_with fail
  exact ⟨rfl, M1.out, er, ep, eq, ez, HN.out, rfl⟩
 | ok y r =>
  obtain ⟨p1, v, rfl, vs, S, rfl, hx, hS⟩ := h1
  obtain ⟨A, n, c, p, q, z, rfl⟩ := hx.form
  have P1 := Lib.hid p1
  have X := Lib.hid hx
  have S1 := Lib.hid hS
  have hv : Value.agg (exC y (.slice A n c) p q z).toArray = .agg #[nv (hdK y), nv (hdV y).k, nv (hdV y).n, sv (hdV y).s, sv (hdN y), sv (hdC y), nv (hdO y : Nat), .slice A n c, nv p, nv q, nv z] := rfl
  rw [hv]
  obtain ⟨⟨⟨⟨y0, y1⟩, y2, y3⟩, ⟨y4, y5⟩, y6, y7⟩, ⟨y8, y9⟩, y10⟩ := cells11 X1.out
  obtain ⟨⟨⟨⟨fr0, fr1⟩, fr2, fr3⟩, ⟨fr4, fr5⟩, fr6, fr7⟩, ⟨fr8, fr9⟩, fr10⟩ := frozen11 X1.out
  have hb1 : b1 < w1.heap.size := by omega
  clear hv p1 hx hS
  go_wp2_with fail
  go_end0
  obtain ⟨w6, hw6⟩ : ∃ w6, w6 = set11 w1 b1 (nv (hdK y)) (nv (hdV y).k) (nv (hdV y).n) (sv (hdV y).s) (sv (hdN y)) (sv (hdC y)) (nv (hdO y : Nat)) (.slice A n c) (nv p) (nv q) (nv z) := ⟨_, rfl⟩
  have HB6 : Hid (w6.heap[b1]? = some (.cells (exC y (.slice A n c) p q z).toArray 43 (0, 0))) := Lib.hid (by
   rw [hw6]
   exact set11_box (vs := [z0, z1, z2, z3, z4, z5, z6, z7, z8, z9, z10]) X1.out rfl)
  have hk6 : ∀ k, k ≠ b1 → w6.heap[k]? = w1.heap[k]? := fun k hk => by
   rw [hw6]
   exact set11_other hk
  have hz6 : w6.heap.size = w1.heap.size := by rw [hw6]; exact set11_size
  have HM6 : Hid (Mod [g, b1] w w6) := Lib.hid (M1.out.trans (cs := [b1]) (by rw [hw6]; exact set11_mod) (fun x hx => .inl (by simp at hx; simp [hx])))
  unfold set11 nv sv at hw6
  rw [← hw6]
  clear hw6
  refine ⟨HM6.out, P1.out.keep fun b hb => hk6 b (by omega), _, rfl, rfl, _, S, HB6.out, ExR.keep (fun b hb => hk6 b (by have := S1.out b hb; omega)) _ _ X.out, fun b hb => ?_⟩
  have := S1.out b hb
  omega
theorem operand1_any (f : Nat) (hE : EC f) (g d b0 b1 : Nat) (l : List Tok) (z0 z1 z2 z3 z4 z5 z6 z7 z8 z9 z10 : Value) (w : World) (h : Ps w g d l) (hd : d ≤ 16) (hno : pExpr f 0 d l ≠ .oof) (h0 : w.heap[b0]? = some (.cells #[.pointer (some ⟨g, 0, none⟩)] 61 (0, 0))) (h1 : w.heap[b1]? = some (.cells #[z0, z1, z2, z3, z4, z5, z6, z7, z8, z9, z10] 43 (0, 0))) (hg1 : g < b1) :
  Calls Tryz.prog 127 #[.pointer (some ⟨b0, 0, none⟩), .pointer (some ⟨b1, 0, none⟩)] w (Out [g, b1] g d w (pExpr f 0 d l) fun x w' v => v = .tuple #[] ∧ GX w.heap.size b1 x w') := by
 have HU := Lib.hid (hE g d 0 l w h hd hno)
 have hlt1 : b1 < w.heap.size := (Array.getElem?_eq_some_iff.1 h1).1
 have H1 := Lib.hid h1
 have x0 : w.cell? ⟨b0, 0, none⟩ = some (.pointer (some ⟨g, 0, none⟩)) := by rw [Lib.cell_of_heap h0]; rfl
 obtain ⟨RT, hRT⟩ : ∃ RT, pExpr f 0 d l = RT := ⟨_, rfl⟩
 rw [hRT] at hno ⊢
 have HRT := Lib.hid hRT
 clear hE h h0 h1 hno hRT
 go_enter Tryz.func127, Tryz.ntmps127
 go_wp2_with fail
 refine HU.out.mono ?_; rintro e w1 ⟨m1, h1⟩
 rw [HRT.out] at h1
 have M1 := Lib.hid (m1.more (cs := [g, b1]) (fun x hx => .inl (by simp at hx; simp [hx])))
 have X1 := Lib.hid (m1.box H1.out (by simp; omega))
 have hs1 := m1.size
 clear m1
 cases RT with
 | oof => exact h1.elim
 | bad =>
  obtain ⟨er, ep, eq, ez, hne, rfl⟩ := h1
  have HN := Lib.hid hne
  clear hne
  go_wp2_with fail
  exact ⟨rfl, M1.out, er, ep, eq, ez, HN.out, rfl⟩
 | ok y r =>
  obtain ⟨p1, v, rfl, vs, S, rfl, hx, hS⟩ := h1
  obtain ⟨A, n, c, p, q, z, rfl⟩ := hx.form
  have P1 := Lib.hid p1
  have X := Lib.hid hx
  have S1 := Lib.hid hS
  have hv : Value.agg (exC y (.slice A n c) p q z).toArray = .agg #[nv (hdK y), nv (hdV y).k, nv (hdV y).n, sv (hdV y).s, sv (hdN y), sv (hdC y), nv (hdO y : Nat), .slice A n c, nv p, nv q, nv z] := rfl
  rw [hv]
  obtain ⟨⟨⟨⟨y0, y1⟩, y2, y3⟩, ⟨y4, y5⟩, y6, y7⟩, ⟨y8, y9⟩, y10⟩ := cells11 X1.out
  obtain ⟨⟨⟨⟨fr0, fr1⟩, fr2, fr3⟩, ⟨fr4, fr5⟩, fr6, fr7⟩, ⟨fr8, fr9⟩, fr10⟩ := frozen11 X1.out
  have hb1 : b1 < w1.heap.size := by omega
  clear hv p1 hx hS
  go_wp2_with fail
  go_end0
  obtain ⟨w6, hw6⟩ : ∃ w6, w6 = set11 w1 b1 (nv (hdK y)) (nv (hdV y).k) (nv (hdV y).n) (sv (hdV y).s) (sv (hdN y)) (sv (hdC y)) (nv (hdO y : Nat)) (.slice A n c) (nv p) (nv q) (nv z) := ⟨_, rfl⟩
  have HB6 : Hid (w6.heap[b1]? = some (.cells (exC y (.slice A n c) p q z).toArray 43 (0, 0))) := Lib.hid (by
   rw [hw6]
   exact set11_box (vs := [z0, z1, z2, z3, z4, z5, z6, z7, z8, z9, z10]) X1.out rfl)
  have hk6 : ∀ k, k ≠ b1 → w6.heap[k]? = w1.heap[k]? := fun k hk => by
   rw [hw6]
   exact set11_other hk
  have hz6 : w6.heap.size = w1.heap.size := by rw [hw6]; exact set11_size
  have HM6 : Hid (Mod [g, b1] w w6) := Lib.hid (M1.out.trans (cs := [b1]) (by rw [hw6]; exact set11_mod) (fun x hx => .inl (by simp at hx; simp [hx])))
  unfold set11 nv sv at hw6
  rw [← hw6]
  clear hw6
  refine ⟨HM6.out, P1.out.keep fun b hb => hk6 b (by omega), _, rfl, rfl, _, S, HB6.out, ExR.keep (fun b hb => hk6 b (by have := S1.out b hb; omega)) _ _ X.out, fun b hb => ?_⟩
  have := S1.out b hb
  omega
theorem key_any (f : Nat) (hE : EC f) (g d : Nat) (l : List Tok) (w : World) (h : Ps w g d l) (hd : d ≤ 16) (hno : pKey f d l ≠ .oof) :
  Calls Tryz.prog 115 #[.pointer (some ⟨g, 0, none⟩)] w (Out [g] g d w (pKey f d l) (ExG w.heap.size)) := by
 have HE := Lib.hid hE
 have HNA : Hid (isT l [91] = true → d < 16 → pExpr f 0 (d + 1) l.tail ≠ .oof) := Lib.hid (fun hi hd => around_no (k := fun d r => pExpr f 0 d r) hno hi hd)
 have HS := Lib.hid h
 have hlt := h.lt
 obtain ⟨RT, hRT⟩ : ∃ RT, pKey f d l = RT := ⟨_, rfl⟩
 rw [hRT] at hno ⊢
 have HRT := Lib.hid hRT
 have hmf : ∀ (fn : Fn) (first cap : Array Value) (w : World), (Instr.makeFunc fn first cap).run Tryz.prog w = .ok (.func fn first cap) w := fun _ _ _ _ => rfl
 clear hE h hno hRT
 have HA : Hid (Below w.heap.size w ((w.alloc (.cells #[.pointer (some ⟨g, 0, none⟩)] 61)).alloc (.cells #[nv 0, nv 0, nv 0, sv [], sv [], sv [], nv 0, .slice none 0 0, nv 0, nv 0, nv 0] 43))) := Lib.hid (by repeat (first | exact Below.refl _ _ | refine Below.alloc ?_ (by simp <;> omega) _))
 have HB0 : Hid (((w.alloc (.cells #[.pointer (some ⟨g, 0, none⟩)] 61)).alloc (.cells #[nv 0, nv 0, nv 0, sv [], sv [], sv [], nv 0, .slice none 0 0, nv 0, nv 0, nv 0] 43)).heap[w.heap.size]? = some (.cells #[.pointer (some ⟨g, 0, none⟩)] 61 (0, 0))) := Lib.hid (alloc_old' (alloc_at rfl))
 have HB1 : Hid (((w.alloc (.cells #[.pointer (some ⟨g, 0, none⟩)] 61)).alloc (.cells #[nv 0, nv 0, nv 0, sv [], sv [], sv [], nv 0, .slice none 0 0, nv 0, nv 0, nv 0] 43)).heap[w.heap.size + 1]? = some (.cells #[nv 0, nv 0, nv 0, sv [], sv [], sv [], nv 0, .slice none 0 0, nv 0, nv 0, nv 0] 43 (0, 0))) := Lib.hid (alloc_at (by simp))
 have hz2 : ((w.alloc (.cells #[.pointer (some ⟨g, 0, none⟩)] 61)).alloc (.cells #[nv 0, nv 0, nv 0, sv [], sv [], sv [], nv 0, .slice none 0 0, nv 0, nv 0, nv 0] 43)).heap.size = w.heap.size + 2 := by simp
 have hc1 := Tryz.call121
 go_enter Tryz.func115, Tryz.ntmps115
 go_wp2_with fail
 have HP2 := Lib.hid (HS.out.next HA.out)
 obtain ⟨w2, hw2⟩ : ∃ w2, ((w.alloc (.cells #[.pointer (some ⟨g, 0, none⟩)] 61)).alloc (.cells #[nv 0, nv 0, nv 0, sv [], sv [], sv [], nv 0, .slice none 0 0, nv 0, nv 0, nv 0] 43)) = w2 := ⟨_, rfl⟩
 rw [hw2] at HA HB0 HB1 hz2 HP2 ⊢
 clear hw2
 have q0 : w2.cell? ⟨w.heap.size, 0, none⟩ = some (.pointer (some ⟨g, 0, none⟩)) := by rw [Lib.cell_of_heap HB0.out]; rfl
 go_wp2_with fail
 refine (around_any (α := Ex) g d l [91] [93] 121 #[.pointer (some ⟨w.heap.size, 0, none⟩), .pointer (some ⟨w.heap.size + 1, 0, none⟩)] [g, w.heap.size + 1] (fun d r => pExpr f 0 d r) (GX w2.heap.size (w.heap.size + 1)) w2 HP2.out hd (by simp) (fun x hx => by simp at hx; omega) hc1 (fun hi hd2 W mW pW => ?_)).mono ?_
 ·refine (key1_any f HE.out g (d + 1) w.heap.size (w.heap.size + 1) l.tail _ _ _ _ _ _ _ _ _ _ _ W pW hd2 (HNA.out hi hd2) (mW.box HB0.out (by simp; omega)) (mW.box HB1.out (by simp; omega)) (by omega)).mono fun e w' ho => ho.imp fun y W' v hg => ⟨hg.1, hg.2.more mW.size⟩
 rintro e w7 ⟨m7, h7⟩
 rw [show Y.around [91] [93] d l (fun d r => pExpr f 0 d r) = RT from HRT.out] at h7
 have M7 : Hid (Mod [g] w w7) := Lib.hid ((Mod.of_below HA.out).trans m7 (fun x hx => by
  simp at hx
  rcases hx with rfl | rfl
  ·exact .inl (by simp)
  ·exact .inr (by omega)))
 clear m7
 cases RT with
 | oof => exact h7.elim
 | bad =>
  obtain ⟨er, ep, eq, ez, hne, rfl⟩ := h7
  have HN := Lib.hid hne
  clear hne
  go_wp2_with fail
  exact ⟨rfl, M7.out, er, ep, eq, ez, HN.out, rfl⟩
 | ok y r =>
  obtain ⟨p7, v, rfl, rfl, W7, hG, m8⟩ := h7
  obtain ⟨vs, S, e1, e2, e3⟩ := hG.mod m8 (by omega) (by omega)
  obtain ⟨A, n, c, p, q, z, rfl⟩ := e2.form
  have P7 := Lib.hid p7
  have HB7 : Hid (w7.heap[w.heap.size + 1]? = some (.cells #[nv (hdK y), nv (hdV y).k, nv (hdV y).n, sv (hdV y).s, sv (hdN y), sv (hdC y), nv (hdO y : Nat), .slice A n c, nv p, nv q, nv z] 43 (0, 0))) := Lib.hid e1
  have X7 := Lib.hid e2
  have S7 := Lib.hid e3
  clear p7 hG m8 e1 e2 e3
  obtain ⟨⟨⟨⟨y0, y1⟩, y2, y3⟩, ⟨y4, y5⟩, y6, y7⟩, ⟨y8, y9⟩, y10⟩ := cells11 HB7.out
  obtain ⟨⟨⟨⟨fr0, fr1⟩, fr2, fr3⟩, ⟨fr4, fr5⟩, fr6, fr7⟩, ⟨fr8, fr9⟩, fr10⟩ := frozen11 HB7.out
  go_wp2_with fail
  refine bodyPost_ret (v := .agg #[nv (hdK y), nv (hdV y).k, nv (hdV y).n, sv (hdV y).s, sv (hdN y), sv (hdC y), nv (hdO y : Nat), .slice A n c, nv p, nv q, nv z]) (by simp [results, Tryz.results115, go_sem, y0, y1, y2, y3, y4, y5, y6, y7, y8, y9, y10]) rfl ?_
  have hns : ¬ S (w.heap.size + 1) := fun hh => by have := S7.out _ hh; omega
  refine ⟨?_, ?_, _, rfl, exC y (.slice A n c) p q z, S, rfl, ?_, ?_⟩
  ·repeat (first | (with_reducible exact M7.out) | refine Mod.set ?_ (.inr (Nat.le_succ _)) _)
  ·repeat (first | (with_reducible exact P7.out) | refine Ps.set ?_ (Nat.lt_succ_of_lt hlt) _)
  ·repeat (first | (with_reducible exact X7.out) | refine ExR.set ?_ hns _)
  ·intro b hb
   have := S7.out b hb
   simp
   omega
end Go.Proofs.YtnbmpfdffoidaaaGreat.Y
