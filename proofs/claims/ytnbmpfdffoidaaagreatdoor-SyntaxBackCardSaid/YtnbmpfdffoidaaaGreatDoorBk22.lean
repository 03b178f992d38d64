/- Texts of the proof, joined: SynSt2. -/
import Derived.Test.YtnbmpfdffoidaaaGreatDoorBk21
set_option linter.unusedVariables false
set_option linter.unusedSimpArgs false
set_option maxHeartbeats 8000000
set_option maxRecDepth 100000
namespace Go.Proofs.YtnbmpfdffoidaaaGreatDoor.Y
open Go.RowKit O V S X
theorem st_del (f : Nat) (hB : BC f) (g d : Nat) (l : List Tok) (w : World) (h : Ps w g d l) (hd : d ≤ 16) (hno : pStmt (f + 1) d l ≠ .oof) (h0 : isT l w_let = false) (h1 : isT l w_del = true) :
  Calls Tryz.prog 141 #[.pointer (some ⟨g, 0, none⟩)] w (Out [g] g d w (pStmt (f + 1) d l) fun s w' v => ∃ vs, v = .agg vs.toArray ∧ TreeS w' w.heap.size s vs) := by
 obtain ⟨RT, hRT⟩ : ∃ RT, pStmt (f + 1) d l = RT := ⟨_, rfl⟩
 rw [hRT] at hno ⊢
 rw [pStmt_eq, h0, h1] at hRT
 simp only [Bool.false_eq_true, if_false, if_true] at hRT
 have HR := Lib.hid hRT
 have HNO := Lib.hid hno
 have HS := Lib.hid h
 have hlt := h.lt
 have HB := Lib.hid hB
 clear hRT hno h hB
 go_enter Tryz.func141, Tryz.ntmps141
 go_wp2_with fail
 refine (here_any g d l _ (HS.out.alloc _)).mono ?_; rintro e w1 ⟨⟨p, q, z, rfl⟩, b1⟩
 have RX1 : Hid (w1.heap[w.heap.size]? = some (.cells #[nv 0, sv [], sv [], sv [], nv 0, .slice none 0 0, .slice none 0 0, .slice none 0 0, nv 0, nv 0, nv 0] 44 (0, 0))) := Lib.hid (box_next (alloc_at rfl) b1)
 have MW1 : Hid (Mod [g] w w1) := Lib.hid (((Mod.refl _ _).alloc _).then (.of_below b1))
 have PW1 := Lib.hid ((HS.out.alloc (.cells #[nv 0, sv [], sv [], sv [], nv 0, .slice none 0 0, .slice none 0 0, .slice none 0 0, nv 0, nv 0, nv 0] 44)).next b1)
 clear b1
 go_wp2_with fail
 have hw1 : w.heap.size < w1.heap.size := (Array.getElem?_eq_some_iff.1 RX1.out).1
 obtain ⟨w2, hw⟩ : ∃ W, W = w1.alloc (.cells #[nv 0, sv [], sv [], sv [], nv 0, .slice none 0 0, .slice none 0 0, .slice none 0 0, nv p, nv q, nv z] 44) := ⟨_, rfl⟩
 have RX : Hid (w2.heap[w.heap.size]? = some (.cells #[nv 0, sv [], sv [], sv [], nv 0, .slice none 0 0, .slice none 0 0, .slice none 0 0, nv 0, nv 0, nv 0] 44 (0, 0))) := Lib.hid (by rw [hw]; exact alloc_old' RX1.out)
 have BX1 : Hid (w2.heap[w1.heap.size]? = some (.cells #[nv 0, sv [], sv [], sv [], nv 0, .slice none 0 0, .slice none 0 0, .slice none 0 0, nv p, nv q, nv z] 44 (0, 0))) := Lib.hid (by rw [hw]; exact alloc_at rfl)
 have MW : Hid (Mod [g] w w2) := Lib.hid (by rw [hw]; exact MW1.out.alloc _)
 have PW : Hid (Ps w2 g d l) := Lib.hid (by rw [hw]; exact PW1.out.alloc _)
 have hz2 : w2.heap.size = w1.heap.size + 1 := by rw [hw]; simp
 have HL : Hid (w2.heap.size ≤ w2.heap.size) := Lib.hid (Nat.le_refl _)
 rw [← hw]
 clear hw RX1 MW1 PW1 HS
 obtain ⟨bs, hbs⟩ : ∃ bs, w1.heap.size = bs := ⟨_, rfl⟩
 rw [hbs] at BX1 hz2 hw1 ⊢
 have BX := BX1
 clear BX1 hbs
 refine (take_any g d _ w_let w2 PW.out).mono ?_; rintro e wt0 ⟨rfl, m, pt⟩
 rw [h0] at pt ⊢
 simp only [if_false, if_true, Bool.false_eq_true] at pt
 replace BX := Lib.hid (m.box BX.out (by simp; omega))
 replace RX := Lib.hid (m.box RX.out (by simp; omega))
 replace MW := Lib.hid (MW.out.then m)
 replace HL := Lib.hid (Nat.le_trans HL.out m.size)
 try replace TT := Lib.hid (TT.out.mod m (fun b hb => by simp at hb; omega))
 try replace TB := Lib.hid (TB.out.mod m (fun b hb => by simp at hb; omega))
 replace PW := Lib.hid pt
 clear m pt
 go_wp2_with fail
 refine (take_any g d _ w_del wt0 PW.out).mono ?_; rintro e wt1 ⟨rfl, m, pt⟩
 rw [h1] at pt ⊢
 simp only [if_false, if_true, Bool.false_eq_true] at pt
 replace BX := Lib.hid (m.box BX.out (by simp; omega))
 replace RX := Lib.hid (m.box RX.out (by simp; omega))
 replace MW := Lib.hid (MW.out.then m)
 replace HL := Lib.hid (Nat.le_trans HL.out m.size)
 try replace TT := Lib.hid (TT.out.mod m (fun b hb => by simp at hb; omega))
 try replace TB := Lib.hid (TB.out.mod m (fun b hb => by simp at hb; omega))
 replace PW := Lib.hid pt
 clear m pt
 go_wp2_with fail
 refine (name_any g d l.tail wt1 PW.out).mono ?_; rintro e w3 hN
 have m := hN.1
 replace BX := Lib.hid (m.box BX.out (by simp; omega))
 replace RX := Lib.hid (m.box RX.out (by simp; omega))
 replace MW := Lib.hid (MW.out.then m)
 replace HL := Lib.hid (Nat.le_trans HL.out m.size)
 try replace TT := Lib.hid (TT.out.mod m (fun b hb => by simp at hb; omega))
 try replace TB := Lib.hid (TB.out.mod m (fun b hb => by simp at hb; omega))
 rcases hN.parts with ⟨hp, er, ep, eq, ez, hne, rfl⟩ | ⟨nm, r1, v, hp, pN, rfl, rfl, hnm⟩
 ·have HN := Lib.hid hne
  clear hne
  have hq := HR.out
  rw [hp] at hq
  simp only [bind_bad] at hq
  subst hq
  try simp only [lastQ]
  go_wp2_with fail
  exact ⟨rfl, MW.out, er, ep, eq, ez, HN.out, rfl⟩
 have hq := HR.out
 rw [hp] at hq
 simp only [bind_ok] at hq
 replace HR := Lib.hid hq
 replace PW := Lib.hid pN
 clear hq hp pN
 clear hN hnm m
 obtain ⟨⟨⟨⟨y0, y1⟩, y2, y3⟩, ⟨y4, y5⟩, y6, y7⟩, ⟨y8, y9⟩, y10⟩ := cells11 BX.out
 obtain ⟨⟨⟨⟨fr0, fr1⟩, fr2, fr3⟩, ⟨fr4, fr5⟩, fr6, fr7⟩, ⟨fr8, fr9⟩, fr10⟩ := frozen11 BX.out
 go_wp2_with fail
 clear y0 y1 y2 y3 y4 y5 y6 y7 y8 y9 y10 fr0 fr1 fr2 fr3 fr4 fr5 fr6 fr7 fr8 fr9 fr10
 obtain ⟨w4, hw⟩ : ∃ W, W = (w3.setCell ⟨bs, 0, none⟩ (.int .i64 4)).setCell ⟨bs, 2, none⟩ (.string ⟨nm.toArray⟩) := ⟨_, rfl⟩
 have m : Mod [bs] w3 w4 := by rw [hw]; exact ((Mod.refl _ _).set (.inl (by simp)) _).set (.inl (by simp)) _
 replace BX : Hid (w4.heap[bs]? = some (.cells #[nv 4, sv [], sv nm, sv [], nv 0, .slice none 0 0, .slice none 0 0, .slice none 0 0, nv p, nv q, nv z] 44 (0, 0))) := Lib.hid (by rw [hw]; exact heap_set' (heap_set' BX.out _ 0 rfl) _ 2 rfl)
 replace RX := Lib.hid (m.box RX.out (by simp; omega))
 replace PW := Lib.hid (PW.out.mod m (fun x hx => by simp at hx; omega))
 replace MW := Lib.hid (MW.out.trans m (fun x hx => .inr (by simp at hx; omega)))
 replace HL := Lib.hid (Nat.le_trans HL.out m.size)
 try replace TT := Lib.hid (TT.out.mod m (fun b hb => by simp at hb; omega))
 try replace TB := Lib.hid (TB.out.mod m (fun b hb => by simp at hb; omega))
 have hzw4 : w4.heap.size = w3.heap.size := by rw [hw]; simp
 rw [← hw]
 clear hw m
 have hnoE := bind_no HR.out HNO.out
 refine (key_t f g d r1 w4 PW.out hd hnoE).mono ?_; rintro e w6 hN
 have m := hN.1
 have hl0 := HL.out
 replace BX := Lib.hid (m.box BX.out (by simp; omega))
 replace RX := Lib.hid (m.box RX.out (by simp; omega))
 replace MW := Lib.hid (MW.out.then m)
 replace HL := Lib.hid (Nat.le_trans HL.out m.size)
 try replace TT := Lib.hid (TT.out.mod m (fun b hb => by simp at hb; omega))
 try replace TB := Lib.hid (TB.out.mod m (fun b hb => by simp at hb; omega))
 rcases hN.parts with ⟨hp, er, ep, eq, ez, hne, rfl⟩ | ⟨x, r3, v, hp, pN, rfl, vs, rfl, hT⟩
 ·have HN := Lib.hid hne
  clear hne
  have hq := HR.out
  rw [hp] at hq
  simp only [bind_bad] at hq
  subst hq
  try simp only [lastQ]
  go_wp2_with fail
  exact ⟨rfl, MW.out, er, ep, eq, ez, HN.out, rfl⟩
 have hq := HR.out
 rw [hp] at hq
 simp only [bind_ok] at hq
 replace HR := Lib.hid hq
 replace PW := Lib.hid pN
 clear hq hp pN
 obtain ⟨A, n, c, p1, q1, z1, rfl⟩ := hT.form
 have TT := Lib.hid (hT.more hl0)
 rw [exV]
 have hbb : bs < w6.heap.size := (Array.getElem?_eq_some_iff.1 BX.out).1
 have hrr : w.heap.size < w6.heap.size := (Array.getElem?_eq_some_iff.1 RX.out).1
 clear hN m hT hnoE hl0
 obtain ⟨⟨⟨⟨y0, y1⟩, y2, y3⟩, ⟨y4, y5⟩, y6, y7⟩, ⟨y8, y9⟩, y10⟩ := cells11 BX.out
 obtain ⟨⟨⟨⟨fr0, fr1⟩, fr2, fr3⟩, ⟨fr4, fr5⟩, fr6, fr7⟩, ⟨fr8, fr9⟩, fr10⟩ := frozen11 BX.out
 go_wp2_with fail
 clear y0 y1 y2 y3 y4 y5 y6 y7 y8 y9 y10 fr0 fr1 fr2 fr3 fr4 fr5 fr6 fr7 fr8 fr9 fr10
 obtain ⟨w7, hw⟩ : ∃ W, W = (w6.setCell ⟨bs, 5, none⟩ (.slice (some ⟨w6.heap.size, 0, none⟩) 1 1)).alloc (.cells #[nv (hdK x), nv (hdV x).k, nv (hdV x).n, sv (hdV x).s, sv (hdN x), sv (hdC x), nv (hdO x : Nat), .slice A n c, nv p1, nv q1, nv z1] 59) := ⟨_, rfl⟩
 have m : Mod [bs] w6 w7 := by rw [hw]; exact ((Mod.refl _ _).set (.inl (by simp)) _).alloc _
 replace BX : Hid (w7.heap[bs]? = some (.cells #[nv 4, sv [], sv nm, sv [], nv 0, .slice (some ⟨w6.heap.size, 0, none⟩) 1 1, .slice none 0 0, .slice none 0 0, nv p, nv q, nv z] 44 (0, 0))) := Lib.hid (by rw [hw]; exact alloc_old' (heap_set' BX.out _ 5 rfl))
 have hr : w7.heap[w6.heap.size]? = some (.cells (exC x (.slice A n c) p1 q1 z1).toArray 59 (0, 0)) := by rw [hw]; exact alloc_at (by simp)
 have hl0 := HL.out
 replace RX := Lib.hid (m.box RX.out (by simp; omega))
 replace PW := Lib.hid (PW.out.mod m (fun x hx => by simp at hx; omega))
 replace MW := Lib.hid (MW.out.trans m (fun x hx => .inr (by simp at hx; omega)))
 replace HL := Lib.hid (Nat.le_trans HL.out m.size)
 replace TT := Lib.hid (RowX.one (TT.out.mod m (fun b hb => by simp at hb; omega)) hr hl0 rfl)
 have hzw7 : w7.heap.size = w6.heap.size + 1 := by rw [hw]; simp
 rw [← hw]
 clear hw m hr hl0
 refine (want_any g d r3 [59] _ _ (PW.out.alloc _) (by have := PW.out.lt; omega) (alloc_at (by omega))).mono ?_; rintro e w8 hN
 have m : Mod [g] w7 w8 := ((Mod.refl _ _).alloc _).then hN.1
 replace BX := Lib.hid (m.box BX.out (by simp; omega))
 replace RX := Lib.hid (m.box RX.out (by simp; omega))
 replace MW := Lib.hid (MW.out.then m)
 replace HL := Lib.hid (Nat.le_trans HL.out m.size)
 try replace TT := Lib.hid (TT.out.mod m (fun b hb => by simp at hb; omega))
 try replace TB := Lib.hid (TB.out.mod m (fun b hb => by simp at hb; omega))
 rcases hN.parts with ⟨hp, er, ep, eq, ez, hne, rfl⟩ | ⟨u, r4, v, hp, pN, rfl, rfl⟩
 ·have HN := Lib.hid hne
  clear hne
  have hq := HR.out
  rw [hp] at hq
  simp only [bind_bad] at hq
  subst hq
  try simp only [lastQ]
  go_wp2_with fail
  exact ⟨rfl, MW.out, er, ep, eq, ez, HN.out, rfl⟩
 have hq := HR.out
 rw [hp] at hq
 simp only [bind_ok] at hq
 replace HR := Lib.hid hq
 replace PW := Lib.hid pN
 clear hq hp pN
 clear hN m u
 have hq := HR.out
 subst hq
 obtain ⟨⟨⟨⟨x0, x1⟩, x2, x3⟩, ⟨x4, x5⟩, x6, x7⟩, ⟨x8, x9⟩, x10⟩ := cells11 BX.out
 obtain ⟨⟨⟨⟨y0, y1⟩, y2, y3⟩, ⟨y4, y5⟩, y6, y7⟩, ⟨y8, y9⟩, y10⟩ := cells11 RX.out
 obtain ⟨⟨⟨⟨fr0, fr1⟩, fr2, fr3⟩, ⟨fr4, fr5⟩, fr6, fr7⟩, ⟨fr8, fr9⟩, fr10⟩ := frozen11 RX.out
 have hnb : w.heap.size ≠ bs := by omega
 go_wp2_with fail
 refine bodyPost_ret (v := .agg #[nv 4, sv [], sv nm, sv [], nv 0, .slice (some ⟨w6.heap.size, 0, none⟩) 1 1, .slice none 0 0, .slice none 0 0, nv p, nv q, nv z]) (by simp [results, Tryz.results141, go_sem, y0, y1, y2, y3, y4, y5, y6, y7, y8, y9, y10]) rfl ?_
 refine ⟨?_, ?_, _, rfl, [nv 4, sv [], sv nm, sv [], nv 0, .slice (some ⟨w6.heap.size, 0, none⟩) 1 1, .slice none 0 0, .slice none 0 0, nv p, nv q, nv z], rfl, ?_⟩
 ·repeat (first | (with_reducible exact MW.out) | refine Mod.set ?_ (.inr (Nat.le_refl _)) _)
 ·repeat (first | (with_reducible exact PW.out) | refine Ps.set ?_ hlt _)
 ·refine (TreeS.mod (bs := [w.heap.size]) (TreeS.mk (s := .del nm x) TT.out rfl RowS.nil_ rfl RowS.nil_ rfl) ?_ (fun b hb => by simp at hb; omega)).more (show w.heap.size ≤ w2.heap.size by omega)
  repeat (first | (with_reducible exact Mod.refl _ _) | refine Mod.set ?_ (.inl (by simp)) _)
theorem st_emit (f : Nat) (hB : BC f) (g d : Nat) (l : List Tok) (w : World) (h : Ps w g d l) (hd : d ≤ 16) (hno : pStmt (f + 1) d l ≠ .oof) (h0 : isT l w_let = false) (h1 : isT l w_del = false) (h2 : isT l w_if = false) (h3 : isT l w_loop = false) (h4 : isT l w_each = false) (h5 : isT l w_rollback = false) (h6 : isT l w_emit = true) :
  Calls Tryz.prog 141 #[.pointer (some ⟨g, 0, none⟩)] w (Out [g] g d w (pStmt (f + 1) d l) fun s w' v => ∃ vs, v = .agg vs.toArray ∧ TreeS w' w.heap.size s vs) := by
 obtain ⟨RT, hRT⟩ : ∃ RT, pStmt (f + 1) d l = RT := ⟨_, rfl⟩
 rw [hRT] at hno ⊢
 rw [pStmt_eq, h0, h1, h2, h3, h4, h5, h6] at hRT
 simp only [Bool.false_eq_true, if_false, if_true] at hRT
 have HR := Lib.hid hRT
 have HNO := Lib.hid hno
 have HS := Lib.hid h
 have hlt := h.lt
 have HB := Lib.hid hB
 clear hRT hno h hB
 go_enter Tryz.func141, Tryz.ntmps141
 go_wp2_with fail
 refine (here_any g d l _ (HS.out.alloc _)).mono ?_; rintro e w1 ⟨⟨p, q, z, rfl⟩, b1⟩
 have RX1 : Hid (w1.heap[w.heap.size]? = some (.cells #[nv 0, sv [], sv [], sv [], nv 0, .slice none 0 0, .slice none 0 0, .slice none 0 0, nv 0, nv 0, nv 0] 44 (0, 0))) := Lib.hid (box_next (alloc_at rfl) b1)
 have MW1 : Hid (Mod [g] w w1) := Lib.hid (((Mod.refl _ _).alloc _).then (.of_below b1))
 have PW1 := Lib.hid ((HS.out.alloc (.cells #[nv 0, sv [], sv [], sv [], nv 0, .slice none 0 0, .slice none 0 0, .slice none 0 0, nv 0, nv 0, nv 0] 44)).next b1)
 clear b1
 go_wp2_with fail
 have hw1 : w.heap.size < w1.heap.size := (Array.getElem?_eq_some_iff.1 RX1.out).1
 obtain ⟨w2, hw⟩ : ∃ W, W = w1.alloc (.cells #[nv 0, sv [], sv [], sv [], nv 0, .slice none 0 0, .slice none 0 0, .slice none 0 0, nv p, nv q, nv z] 44) := ⟨_, rfl⟩
 have RX : Hid (w2.heap[w.heap.size]? = some (.cells #[nv 0, sv [], sv [], sv [], nv 0, .slice none 0 0, .slice none 0 0, .slice none 0 0, nv 0, nv 0, nv 0] 44 (0, 0))) := Lib.hid (by rw [hw]; exact alloc_old' RX1.out)
 have BX1 : Hid (w2.heap[w1.heap.size]? = some (.cells #[nv 0, sv [], sv [], sv [], nv 0, .slice none 0 0, .slice none 0 0, .slice none 0 0, nv p, nv q, nv z] 44 (0, 0))) := Lib.hid (by rw [hw]; exact alloc_at rfl)
 have MW : Hid (Mod [g] w w2) := Lib.hid (by rw [hw]; exact MW1.out.alloc _)
 have PW : Hid (Ps w2 g d l) := Lib.hid (by rw [hw]; exact PW1.out.alloc _)
 have hz2 : w2.heap.size = w1.heap.size + 1 := by rw [hw]; simp
 have HL : Hid (w2.heap.size ≤ w2.heap.size) := Lib.hid (Nat.le_refl _)
 rw [← hw]
 clear hw RX1 MW1 PW1 HS
 obtain ⟨bs, hbs⟩ : ∃ bs, w1.heap.size = bs := ⟨_, rfl⟩
 rw [hbs] at BX1 hz2 hw1 ⊢
 have BX := BX1
 clear BX1 hbs
 refine (take_any g d _ w_let w2 PW.out).mono ?_; rintro e wt0 ⟨rfl, m, pt⟩
 rw [h0] at pt ⊢
 simp only [if_false, if_true, Bool.false_eq_true] at pt
 replace BX := Lib.hid (m.box BX.out (by simp; omega))
 replace RX := Lib.hid (m.box RX.out (by simp; omega))
 replace MW := Lib.hid (MW.out.then m)
 replace HL := Lib.hid (Nat.le_trans HL.out m.size)
 try replace TT := Lib.hid (TT.out.mod m (fun b hb => by simp at hb; omega))
 try replace TB := Lib.hid (TB.out.mod m (fun b hb => by simp at hb; omega))
 replace PW := Lib.hid pt
 clear m pt
 go_wp2_with fail
 refine (take_any g d _ w_del wt0 PW.out).mono ?_; rintro e wt1 ⟨rfl, m, pt⟩
 rw [h1] at pt ⊢
 simp only [if_false, if_true, Bool.false_eq_true] at pt
 replace BX := Lib.hid (m.box BX.out (by simp; omega))
 replace RX := Lib.hid (m.box RX.out (by simp; omega))
 replace MW := Lib.hid (MW.out.then m)
 replace HL := Lib.hid (Nat.le_trans HL.out m.size)
 try replace TT := Lib.hid (TT.out.mod m (fun b hb => by simp at hb; omega))
 try replace TB := Lib.hid (TB.out.mod m (fun b hb => by simp at hb; omega))
 replace PW := Lib.hid pt
 clear m pt
 go_wp2_with fail
 refine (take_any g d _ w_if wt1 PW.out).mono ?_; rintro e wt2 ⟨rfl, m, pt⟩
 rw [h2] at pt ⊢
 simp only [if_false, if_true, Bool.false_eq_true] at pt
 replace BX := Lib.hid (m.box BX.out (by simp; omega))
 replace RX := Lib.hid (m.box RX.out (by simp; omega))
 replace MW := Lib.hid (MW.out.then m)
 replace HL := Lib.hid (Nat.le_trans HL.out m.size)
 try replace TT := Lib.hid (TT.out.mod m (fun b hb => by simp at hb; omega))
 try replace TB := Lib.hid (TB.out.mod m (fun b hb => by simp at hb; omega))
 replace PW := Lib.hid pt
 clear m pt
 go_wp2_with fail
 refine (take_any g d _ w_loop wt2 PW.out).mono ?_; rintro e wt3 ⟨rfl, m, pt⟩
 rw [h3] at pt ⊢
 simp only [if_false, if_true, Bool.false_eq_true] at pt
 replace BX := Lib.hid (m.box BX.out (by simp; omega))
 replace RX := Lib.hid (m.box RX.out (by simp; omega))
 replace MW := Lib.hid (MW.out.then m)
 replace HL := Lib.hid (Nat.le_trans HL.out m.size)
 try replace TT := Lib.hid (TT.out.mod m (fun b hb => by simp at hb; omega))
 try replace TB := Lib.hid (TB.out.mod m (fun b hb => by simp at hb; omega))
 replace PW := Lib.hid pt
 clear m pt
 go_wp2_with fail
 refine (take_any g d _ w_each wt3 PW.out).mono ?_; rintro e wt4 ⟨rfl, m, pt⟩
 rw [h4] at pt ⊢
 simp only [if_false, if_true, Bool.false_eq_true] at pt
 replace BX := Lib.hid (m.box BX.out (by simp; omega))
 replace RX := Lib.hid (m.box RX.out (by simp; omega))
 replace MW := Lib.hid (MW.out.then m)
 replace HL := Lib.hid (Nat.le_trans HL.out m.size)
 try replace TT := Lib.hid (TT.out.mod m (fun b hb => by simp at hb; omega))
 try replace TB := Lib.hid (TB.out.mod m (fun b hb => by simp at hb; omega))
 replace PW := Lib.hid pt
 clear m pt
 go_wp2_with fail
 refine (take_any g d _ w_rollback wt4 PW.out).mono ?_; rintro e wt5 ⟨rfl, m, pt⟩
 rw [h5] at pt ⊢
 simp only [if_false, if_true, Bool.false_eq_true] at pt
 replace BX := Lib.hid (m.box BX.out (by simp; omega))
 replace RX := Lib.hid (m.box RX.out (by simp; omega))
 replace MW := Lib.hid (MW.out.then m)
 replace HL := Lib.hid (Nat.le_trans HL.out m.size)
 try replace TT := Lib.hid (TT.out.mod m (fun b hb => by simp at hb; omega))
 try replace TB := Lib.hid (TB.out.mod m (fun b hb => by simp at hb; omega))
 replace PW := Lib.hid pt
 clear m pt
 go_wp2_with fail
 refine (take_any g d _ w_emit wt5 PW.out).mono ?_; rintro e wt6 ⟨rfl, m, pt⟩
 rw [h6] at pt ⊢
 simp only [if_false, if_true, Bool.false_eq_true] at pt
 replace BX := Lib.hid (m.box BX.out (by simp; omega))
 replace RX := Lib.hid (m.box RX.out (by simp; omega))
 replace MW := Lib.hid (MW.out.then m)
 replace HL := Lib.hid (Nat.le_trans HL.out m.size)
 try replace TT := Lib.hid (TT.out.mod m (fun b hb => by simp at hb; omega))
 try replace TB := Lib.hid (TB.out.mod m (fun b hb => by simp at hb; omega))
 replace PW := Lib.hid pt
 clear m pt
 go_wp2_with fail
 have hnoE := bind_no HR.out HNO.out
 refine (line_t f g d l.tail wt6 PW.out hd hnoE).mono ?_; rintro e w6 hN
 have m := hN.1
 have hl0 := HL.out
 replace BX := Lib.hid (m.box BX.out (by simp; omega))
 replace RX := Lib.hid (m.box RX.out (by simp; omega))
 replace MW := Lib.hid (MW.out.then m)
 replace HL := Lib.hid (Nat.le_trans HL.out m.size)
 try replace TT := Lib.hid (TT.out.mod m (fun b hb => by simp at hb; omega))
 try replace TB := Lib.hid (TB.out.mod m (fun b hb => by simp at hb; omega))
 rcases hN.parts with ⟨hp, er, ep, eq, ez, hne, rfl⟩ | ⟨x, r3, v, hp, pN, rfl, vs, rfl, hT⟩
 ·have HN := Lib.hid hne
  clear hne
  have hq := HR.out
  rw [hp] at hq
  simp only [bind_bad] at hq
  subst hq
  try simp only [lastQ]
  go_wp2_with fail
  exact ⟨rfl, MW.out, er, ep, eq, ez, HN.out, rfl⟩
 have hq := HR.out
 rw [hp] at hq
 simp only [bind_ok] at hq
 replace HR := Lib.hid hq
 replace PW := Lib.hid pN
 clear hq hp pN
 obtain ⟨A, n, c, p1, q1, z1, rfl⟩ := hT.form
 have TT := Lib.hid (hT.more hl0)
 rw [exV]
 have hbb : bs < w6.heap.size := (Array.getElem?_eq_some_iff.1 BX.out).1
 have hrr : w.heap.size < w6.heap.size := (Array.getElem?_eq_some_iff.1 RX.out).1
 clear hN m hT hnoE hl0
 obtain ⟨⟨⟨⟨y0, y1⟩, y2, y3⟩, ⟨y4, y5⟩, y6, y7⟩, ⟨y8, y9⟩, y10⟩ := cells11 BX.out
 obtain ⟨⟨⟨⟨fr0, fr1⟩, fr2, fr3⟩, ⟨fr4, fr5⟩, fr6, fr7⟩, ⟨fr8, fr9⟩, fr10⟩ := frozen11 BX.out
 go_upto_region 27 with fail
 clear y0 y1 y2 y3 y4 y5 y6 y7 y8 y9 y10 fr0 fr1 fr2 fr3 fr4 fr5 fr6 fr7 fr8 fr9 fr10
 obtain ⟨w7, hw⟩ : ∃ W, W = ((w6.setCell ⟨bs, 0, none⟩ (.int .i64 9)).setCell ⟨bs, 5, none⟩ (.slice (some ⟨w6.heap.size, 0, none⟩) 1 1)).alloc (.cells #[nv (hdK x), nv (hdV x).k, nv (hdV x).n, sv (hdV x).s, sv (hdN x), sv (hdC x), nv (hdO x : Nat), .slice A n c, nv p1, nv q1, nv z1] 59) := ⟨_, rfl⟩
 have m : Mod [bs] w6 w7 := by rw [hw]; exact (((Mod.refl _ _).set (.inl (by simp)) _).set (.inl (by simp)) _).alloc _
 replace BX : Hid (w7.heap[bs]? = some (.cells #[nv 9, sv [], sv [], sv [], nv 0, .slice (some ⟨w6.heap.size, 0, none⟩) 1 1, .slice none 0 0, .slice none 0 0, nv p, nv q, nv z] 44 (0, 0))) := Lib.hid (by rw [hw]; exact alloc_old' (heap_set' (heap_set' BX.out _ 0 rfl) _ 5 rfl))
 have hr : w7.heap[w6.heap.size]? = some (.cells (exC x (.slice A n c) p1 q1 z1).toArray 59 (0, 0)) := by rw [hw]; exact alloc_at (by simp)
 have hl0 := HL.out
 replace RX := Lib.hid (m.box RX.out (by simp; omega))
 replace PW := Lib.hid (PW.out.mod m (fun x hx => by simp at hx; omega))
 replace MW := Lib.hid (MW.out.trans m (fun x hx => .inr (by simp at hx; omega)))
 replace HL := Lib.hid (Nat.le_trans HL.out m.size)
 replace TT := Lib.hid (RowX.one (TT.out.mod m (fun b hb => by simp at hb; omega)) hr hl0 rfl)
 have hzw7 : w7.heap.size = w6.heap.size + 1 := by rw [hw]; simp
 rw [← hw]
 clear hw m hr hl0
 have hq := HR.out
 subst hq
 obtain ⟨⟨⟨⟨x0, x1⟩, x2, x3⟩, ⟨x4, x5⟩, x6, x7⟩, ⟨x8, x9⟩, x10⟩ := cells11 BX.out
 obtain ⟨⟨⟨⟨y0, y1⟩, y2, y3⟩, ⟨y4, y5⟩, y6, y7⟩, ⟨y8, y9⟩, y10⟩ := cells11 RX.out
 obtain ⟨⟨⟨⟨fr0, fr1⟩, fr2, fr3⟩, ⟨fr4, fr5⟩, fr6, fr7⟩, ⟨fr8, fr9⟩, fr10⟩ := frozen11 RX.out
 have hnb : w.heap.size ≠ bs := by omega
 go_wp2_with fail
 refine bodyPost_ret (v := .agg #[nv 9, sv [], sv [], sv [], nv 0, .slice (some ⟨w6.heap.size, 0, none⟩) 1 1, .slice none 0 0, .slice none 0 0, nv p, nv q, nv z]) (by simp [results, Tryz.results141, go_sem, y0, y1, y2, y3, y4, y5, y6, y7, y8, y9, y10]) rfl ?_
 refine ⟨?_, ?_, _, rfl, [nv 9, sv [], sv [], sv [], nv 0, .slice (some ⟨w6.heap.size, 0, none⟩) 1 1, .slice none 0 0, .slice none 0 0, nv p, nv q, nv z], rfl, ?_⟩
 ·repeat (first | (with_reducible exact MW.out) | refine Mod.set ?_ (.inr (Nat.le_refl _)) _)
 ·repeat (first | (with_reducible exact PW.out) | refine Ps.set ?_ hlt _)
 ·refine (TreeS.mod (bs := [w.heap.size]) (TreeS.mk (s := .emit x) TT.out rfl RowS.nil_ rfl RowS.nil_ rfl) ?_ (fun b hb => by simp at hb; omega)).more (show w.heap.size ≤ w2.heap.size by omega)
  repeat (first | (with_reducible exact Mod.refl _ _) | refine Mod.set ?_ (.inl (by simp)) _)
theorem st_roll (f : Nat) (hB : BC f) (g d : Nat) (l : List Tok) (w : World) (h : Ps w g d l) (hd : d ≤ 16) (hno : pStmt (f + 1) d l ≠ .oof) (h0 : isT l w_let = false) (h1 : isT l w_del = false) (h2 : isT l w_if = false) (h3 : isT l w_loop = false) (h4 : isT l w_each = false) (h5 : isT l w_rollback = true) :
  Calls Tryz.prog 141 #[.pointer (some ⟨g, 0, none⟩)] w (Out [g] g d w (pStmt (f + 1) d l) fun s w' v => ∃ vs, v = .agg vs.toArray ∧ TreeS w' w.heap.size s vs) := by
 obtain ⟨RT, hRT⟩ : ∃ RT, pStmt (f + 1) d l = RT := ⟨_, rfl⟩
 rw [hRT] at hno ⊢
 rw [pStmt_eq, h0, h1, h2, h3, h4, h5] at hRT
 simp only [Bool.false_eq_true, if_false, if_true] at hRT
 have HR := Lib.hid hRT
 have HNO := Lib.hid hno
 have HS := Lib.hid h
 have hlt := h.lt
 have HB := Lib.hid hB
 clear hRT hno h hB
 go_enter Tryz.func141, Tryz.ntmps141
 go_wp2_with fail
 refine (here_any g d l _ (HS.out.alloc _)).mono ?_; rintro e w1 ⟨⟨p, q, z, rfl⟩, b1⟩
 have RX1 : Hid (w1.heap[w.heap.size]? = some (.cells #[nv 0, sv [], sv [], sv [], nv 0, .slice none 0 0, .slice none 0 0, .slice none 0 0, nv 0, nv 0, nv 0] 44 (0, 0))) := Lib.hid (box_next (alloc_at rfl) b1)
 have MW1 : Hid (Mod [g] w w1) := Lib.hid (((Mod.refl _ _).alloc _).then (.of_below b1))
 have PW1 := Lib.hid ((HS.out.alloc (.cells #[nv 0, sv [], sv [], sv [], nv 0, .slice none 0 0, .slice none 0 0, .slice none 0 0, nv 0, nv 0, nv 0] 44)).next b1)
 clear b1
 go_wp2_with fail
 have hw1 : w.heap.size < w1.heap.size := (Array.getElem?_eq_some_iff.1 RX1.out).1
 obtain ⟨w2, hw⟩ : ∃ W, W = w1.alloc (.cells #[nv 0, sv [], sv [], sv [], nv 0, .slice none 0 0, .slice none 0 0, .slice none 0 0, nv p, nv q, nv z] 44) := ⟨_, rfl⟩
 have RX : Hid (w2.heap[w.heap.size]? = some (.cells #[nv 0, sv [], sv [], sv [], nv 0, .slice none 0 0, .slice none 0 0, .slice none 0 0, nv 0, nv 0, nv 0] 44 (0, 0))) := Lib.hid (by rw [hw]; exact alloc_old' RX1.out)
 have BX1 : Hid (w2.heap[w1.heap.size]? = some (.cells #[nv 0, sv [], sv [], sv [], nv 0, .slice none 0 0, .slice none 0 0, .slice none 0 0, nv p, nv q, nv z] 44 (0, 0))) := Lib.hid (by rw [hw]; exact alloc_at rfl)
 have MW : Hid (Mod [g] w w2) := Lib.hid (by rw [hw]; exact MW1.out.alloc _)
 have PW : Hid (Ps w2 g d l) := Lib.hid (by rw [hw]; exact PW1.out.alloc _)
 have hz2 : w2.heap.size = w1.heap.size + 1 := by rw [hw]; simp
 have HL : Hid (w2.heap.size ≤ w2.heap.size) := Lib.hid (Nat.le_refl _)
 rw [← hw]
 clear hw RX1 MW1 PW1 HS
 obtain ⟨bs, hbs⟩ : ∃ bs, w1.heap.size = bs := ⟨_, rfl⟩
 rw [hbs] at BX1 hz2 hw1 ⊢
 have BX := BX1
 clear BX1 hbs
 refine (take_any g d _ w_let w2 PW.out).mono ?_; rintro e wt0 ⟨rfl, m, pt⟩
 rw [h0] at pt ⊢
 simp only [if_false, if_true, Bool.false_eq_true] at pt
 replace BX := Lib.hid (m.box BX.out (by simp; omega))
 replace RX := Lib.hid (m.box RX.out (by simp; omega))
 replace MW := Lib.hid (MW.out.then m)
 replace HL := Lib.hid (Nat.le_trans HL.out m.size)
 try replace TT := Lib.hid (TT.out.mod m (fun b hb => by simp at hb; omega))
 try replace TB := Lib.hid (TB.out.mod m (fun b hb => by simp at hb; omega))
 replace PW := Lib.hid pt
 clear m pt
 go_wp2_with fail
 refine (take_any g d _ w_del wt0 PW.out).mono ?_; rintro e wt1 ⟨rfl, m, pt⟩
 rw [h1] at pt ⊢
 simp only [if_false, if_true, Bool.false_eq_true] at pt
 replace BX := Lib.hid (m.box BX.out (by simp; omega))
 replace RX := Lib.hid (m.box RX.out (by simp; omega))
 replace MW := Lib.hid (MW.out.then m)
 replace HL := Lib.hid (Nat.le_trans HL.out m.size)
 try replace TT := Lib.hid (TT.out.mod m (fun b hb => by simp at hb; omega))
 try replace TB := Lib.hid (TB.out.mod m (fun b hb => by simp at hb; omega))
 replace PW := Lib.hid pt
 clear m pt
 go_wp2_with fail
 refine (take_any g d _ w_if wt1 PW.out).mono ?_; rintro e wt2 ⟨rfl, m, pt⟩
 rw [h2] at pt ⊢
 simp only [if_false, if_true, Bool.false_eq_true] at pt
 replace BX := Lib.hid (m.box BX.out (by simp; omega))
 replace RX := Lib.hid (m.box RX.out (by simp; omega))
 replace MW := Lib.hid (MW.out.then m)
 replace HL := Lib.hid (Nat.le_trans HL.out m.size)
 try replace TT := Lib.hid (TT.out.mod m (fun b hb => by simp at hb; omega))
 try replace TB := Lib.hid (TB.out.mod m (fun b hb => by simp at hb; omega))
 replace PW := Lib.hid pt
 clear m pt
 go_wp2_with fail
 refine (take_any g d _ w_loop wt2 PW.out).mono ?_; rintro e wt3 ⟨rfl, m, pt⟩
 rw [h3] at pt ⊢
 simp only [if_false, if_true, Bool.false_eq_true] at pt
 replace BX := Lib.hid (m.box BX.out (by simp; omega))
 replace RX := Lib.hid (m.box RX.out (by simp; omega))
 replace MW := Lib.hid (MW.out.then m)
 replace HL := Lib.hid (Nat.le_trans HL.out m.size)
 try replace TT := Lib.hid (TT.out.mod m (fun b hb => by simp at hb; omega))
 try replace TB := Lib.hid (TB.out.mod m (fun b hb => by simp at hb; omega))
 replace PW := Lib.hid pt
 clear m pt
 go_wp2_with fail
 refine (take_any g d _ w_each wt3 PW.out).mono ?_; rintro e wt4 ⟨rfl, m, pt⟩
 rw [h4] at pt ⊢
 simp only [if_false, if_true, Bool.false_eq_true] at pt
 replace BX := Lib.hid (m.box BX.out (by simp; omega))
 replace RX := Lib.hid (m.box RX.out (by simp; omega))
 replace MW := Lib.hid (MW.out.then m)
 replace HL := Lib.hid (Nat.le_trans HL.out m.size)
 try replace TT := Lib.hid (TT.out.mod m (fun b hb => by simp at hb; omega))
 try replace TB := Lib.hid (TB.out.mod m (fun b hb => by simp at hb; omega))
 replace PW := Lib.hid pt
 clear m pt
 go_wp2_with fail
 refine (take_any g d _ w_rollback wt4 PW.out).mono ?_; rintro e wt5 ⟨rfl, m, pt⟩
 rw [h5] at pt ⊢
 simp only [if_false, if_true, Bool.false_eq_true] at pt
 replace BX := Lib.hid (m.box BX.out (by simp; omega))
 replace RX := Lib.hid (m.box RX.out (by simp; omega))
 replace MW := Lib.hid (MW.out.then m)
 replace HL := Lib.hid (Nat.le_trans HL.out m.size)
 try replace TT := Lib.hid (TT.out.mod m (fun b hb => by simp at hb; omega))
 try replace TB := Lib.hid (TB.out.mod m (fun b hb => by simp at hb; omega))
 replace PW := Lib.hid pt
 clear m pt
 obtain ⟨⟨⟨⟨y0, y1⟩, y2, y3⟩, ⟨y4, y5⟩, y6, y7⟩, ⟨y8, y9⟩, y10⟩ := cells11 BX.out
 obtain ⟨⟨⟨⟨fr0, fr1⟩, fr2, fr3⟩, ⟨fr4, fr5⟩, fr6, fr7⟩, ⟨fr8, fr9⟩, fr10⟩ := frozen11 BX.out
 go_wp2_with fail
 clear y0 y1 y2 y3 y4 y5 y6 y7 y8 y9 y10 fr0 fr1 fr2 fr3 fr4 fr5 fr6 fr7 fr8 fr9 fr10
 obtain ⟨w4, hw⟩ : ∃ W, W = wt5.setCell ⟨bs, 0, none⟩ (.int .i64 8) := ⟨_, rfl⟩
 have m : Mod [bs] wt5 w4 := by rw [hw]; exact (Mod.refl _ _).set (.inl (by simp)) _
 replace BX : Hid (w4.heap[bs]? = some (.cells #[nv 8, sv [], sv [], sv [], nv 0, .slice none 0 0, .slice none 0 0, .slice none 0 0, nv p, nv q, nv z] 44 (0, 0))) := Lib.hid (by rw [hw]; exact heap_set' BX.out _ 0 rfl)
 replace RX := Lib.hid (m.box RX.out (by simp; omega))
 replace PW := Lib.hid (PW.out.mod m (fun x hx => by simp at hx; omega))
 replace MW := Lib.hid (MW.out.trans m (fun x hx => .inr (by simp at hx; omega)))
 replace HL := Lib.hid (Nat.le_trans HL.out m.size)
 try replace TT := Lib.hid (TT.out.mod m (fun b hb => by simp at hb; omega))
 try replace TB := Lib.hid (TB.out.mod m (fun b hb => by simp at hb; omega))
 have hzw4 : w4.heap.size = wt5.heap.size := by rw [hw]; simp
 rw [← hw]
 clear hw m
 refine (want_any g d l.tail [59] _ _ (PW.out.alloc _) (by have := PW.out.lt; omega) (alloc_at (by omega))).mono ?_; rintro e w5 hN
 have m : Mod [g] w4 w5 := ((Mod.refl _ _).alloc _).then hN.1
 replace BX := Lib.hid (m.box BX.out (by simp; omega))
 replace RX := Lib.hid (m.box RX.out (by simp; omega))
 replace MW := Lib.hid (MW.out.then m)
 replace HL := Lib.hid (Nat.le_trans HL.out m.size)
 try replace TT := Lib.hid (TT.out.mod m (fun b hb => by simp at hb; omega))
 try replace TB := Lib.hid (TB.out.mod m (fun b hb => by simp at hb; omega))
 rcases hN.parts with ⟨hp, er, ep, eq, ez, hne, rfl⟩ | ⟨u, r4, v, hp, pN, rfl, rfl⟩
 ·have HN := Lib.hid hne
  clear hne
  have hq := HR.out
  rw [hp] at hq
  simp only [bind_bad] at hq
  subst hq
  try simp only [lastQ]
  go_wp2_with fail
  exact ⟨rfl, MW.out, er, ep, eq, ez, HN.out, rfl⟩
 have hq := HR.out
 rw [hp] at hq
 simp only [bind_ok] at hq
 replace HR := Lib.hid hq
 replace PW := Lib.hid pN
 clear hq hp pN
 clear hN m u
 have hq := HR.out
 subst hq
 obtain ⟨⟨⟨⟨x0, x1⟩, x2, x3⟩, ⟨x4, x5⟩, x6, x7⟩, ⟨x8, x9⟩, x10⟩ := cells11 BX.out
 obtain ⟨⟨⟨⟨y0, y1⟩, y2, y3⟩, ⟨y4, y5⟩, y6, y7⟩, ⟨y8, y9⟩, y10⟩ := cells11 RX.out
 obtain ⟨⟨⟨⟨fr0, fr1⟩, fr2, fr3⟩, ⟨fr4, fr5⟩, fr6, fr7⟩, ⟨fr8, fr9⟩, fr10⟩ := frozen11 RX.out
 have hnb : w.heap.size ≠ bs := by omega
 go_wp2_with fail
 refine bodyPost_ret (v := .agg #[nv 8, sv [], sv [], sv [], nv 0, .slice none 0 0, .slice none 0 0, .slice none 0 0, nv p, nv q, nv z]) (by simp [results, Tryz.results141, go_sem, y0, y1, y2, y3, y4, y5, y6, y7, y8, y9, y10]) rfl ?_
 refine ⟨?_, ?_, _, rfl, [nv 8, sv [], sv [], sv [], nv 0, .slice none 0 0, .slice none 0 0, .slice none 0 0, nv p, nv q, nv z], rfl, ?_⟩
 ·repeat (first | (with_reducible exact MW.out) | refine Mod.set ?_ (.inr (Nat.le_refl _)) _)
 ·repeat (first | (with_reducible exact PW.out) | refine Ps.set ?_ hlt _)
 ·refine (TreeS.mod (bs := [w.heap.size]) (TreeS.mk (w := w5) (s := .roll) RowX.nil_ rfl RowS.nil_ rfl RowS.nil_ rfl) ?_ (fun b hb => by simp at hb; omega)).more (show w.heap.size ≤ w2.heap.size by omega)
  repeat (first | (with_reducible exact Mod.refl _ _) | refine Mod.set ?_ (.inl (by simp)) _)
end Go.Proofs.YtnbmpfdffoidaaaGreatDoor.Y
