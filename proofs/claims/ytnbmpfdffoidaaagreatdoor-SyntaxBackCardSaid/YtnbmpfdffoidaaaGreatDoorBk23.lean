/- Texts of the proof, joined: SynSt3, SynBlk, SynBk. -/
import Derived.Test.YtnbmpfdffoidaaaGreatDoorBk21
import Derived.Test.YtnbmpfdffoidaaaGreatDoorBk22
set_option linter.unusedVariables false
set_option linter.unusedSimpArgs false
set_option maxHeartbeats 8000000
set_option maxRecDepth 100000
namespace Go.Proofs.YtnbmpfdffoidaaaGreatDoor.Y
open Go.RowKit O V S X
theorem st_loop (f : Nat) (hB : BC f) (g d : Nat) (l : List Tok) (w : World) (h : Ps w g d l) (hd : d ≤ 16) (hno : pStmt (f + 1) d l ≠ .oof) (h0 : isT l w_let = false) (h1 : isT l w_del = false) (h2 : isT l w_if = false) (h3 : isT l w_loop = true) :
  Calls Tryz.prog 141 #[.pointer (some ⟨g, 0, none⟩)] w (Out [g] g d w (pStmt (f + 1) d l) fun s w' v => ∃ vs, v = .agg vs.toArray ∧ TreeS w' w.heap.size s vs) := by
 obtain ⟨RT, hRT⟩ : ∃ RT, pStmt (f + 1) d l = RT := ⟨_, rfl⟩
 rw [hRT] at hno ⊢
 rw [pStmt_eq, h0, h1, h2, h3] at hRT
 simp only [Bool.false_eq_true, if_false, if_true] at hRT
 have HR := Lib.hid hRT
 have HNO := Lib.hid hno
 have HS := Lib.hid h
 have hlt := h.lt
 have HB := Lib.hid hB
 clear hRT hno h hB
 go_enter Tryz.func141, Tryz.ntmps141
 go_wp2_with fail
 refine (here_any g d l _ (HS.out.alloc _)).mono ?_; rintro e w1 ⟨⟨p, q, z, rfl⟩, b1⟩
 have RX1 : Hid (w1.heap[w.heap.size]? = some (.cells #[nv 0, sv [], sv [], sv [], nv 0, .slice none 0 0, .slice none 0 0, .slice none 0 0, nv 0, nv 0, nv 0] 44 (0, 0))) := Lib.hid (box_next (alloc_at rfl) b1)
 have MW1 : Hid (Mod [g] w w1) := Lib.hid (((Mod.refl _ _).alloc _).then (.of_below b1))
 have PW1 := Lib.hid ((HS.out.alloc (.cells #[nv 0, sv [], sv [], sv [], nv 0, .slice none 0 0, .slice none 0 0, .slice none 0 0, nv 0, nv 0, nv 0] 44)).next b1)
 clear b1
 go_wp2_with fail
 have hw1 : w.heap.size < w1.heap.size := (Array.getElem?_eq_some_iff.1 RX1.out).1
 obtain ⟨w2, hw⟩ : ∃ W, W = w1.alloc (.cells #[nv 0, sv [], sv [], sv [], nv 0, .slice none 0 0, .slice none 0 0, .slice none 0 0, nv p, nv q, nv z] 44) := ⟨_, rfl⟩
 have RX : Hid (w2.heap[w.heap.size]? = some (.cells #[nv 0, sv [], sv [], sv [], nv 0, .slice none 0 0, .slice none 0 0, .slice none 0 0, nv 0, nv 0, nv 0] 44 (0, 0))) := Lib.hid (by rw [hw]; exact alloc_old' RX1.out)
 have BX1 : Hid (w2.heap[w1.heap.size]? = some (.cells #[nv 0, sv [], sv [], sv [], nv 0, .slice none 0 0, .slice none 0 0, .slice none 0 0, nv p, nv q, nv z] 44 (0, 0))) := Lib.hid (by rw [hw]; exact alloc_at rfl)
 have MW : Hid (Mod [g] w w2) := Lib.hid (by rw [hw]; exact MW1.out.alloc _)
 have PW : Hid (Ps w2 g d l) := Lib.hid (by rw [hw]; exact PW1.out.alloc _)
 have hz2 : w2.heap.size = w1.heap.size + 1 := by rw [hw]; simp
 have HL : Hid (w2.heap.size ≤ w2.heap.size) := Lib.hid (Nat.le_refl _)
 rw [← hw]
 clear hw RX1 MW1 PW1 HS
 obtain ⟨bs, hbs⟩ : ∃ bs, w1.heap.size = bs := ⟨_, rfl⟩
 rw [hbs] at BX1 hz2 hw1 ⊢
 have BX := BX1
 clear BX1 hbs
 refine (take_any g d _ w_let w2 PW.out).mono ?_; rintro e wt0 ⟨rfl, m, pt⟩
 rw [h0] at pt ⊢
 simp only [if_false, if_true, Bool.false_eq_true] at pt
 replace BX := Lib.hid (m.box BX.out (by simp; omega))
 replace RX := Lib.hid (m.box RX.out (by simp; omega))
 replace MW := Lib.hid (MW.out.then m)
 replace HL := Lib.hid (Nat.le_trans HL.out m.size)
 try replace TT := Lib.hid (TT.out.mod m (fun b hb => by simp at hb; omega))
 try replace TB := Lib.hid (TB.out.mod m (fun b hb => by simp at hb; omega))
 try replace TE := Lib.hid (TE.out.mod m (fun b hb => by simp at hb; omega))
 replace PW := Lib.hid pt
 clear m pt
 go_wp2_with fail
 refine (take_any g d _ w_del wt0 PW.out).mono ?_; rintro e wt1 ⟨rfl, m, pt⟩
 rw [h1] at pt ⊢
 simp only [if_false, if_true, Bool.false_eq_true] at pt
 replace BX := Lib.hid (m.box BX.out (by simp; omega))
 replace RX := Lib.hid (m.box RX.out (by simp; omega))
 replace MW := Lib.hid (MW.out.then m)
 replace HL := Lib.hid (Nat.le_trans HL.out m.size)
 try replace TT := Lib.hid (TT.out.mod m (fun b hb => by simp at hb; omega))
 try replace TB := Lib.hid (TB.out.mod m (fun b hb => by simp at hb; omega))
 try replace TE := Lib.hid (TE.out.mod m (fun b hb => by simp at hb; omega))
 replace PW := Lib.hid pt
 clear m pt
 go_wp2_with fail
 refine (take_any g d _ w_if wt1 PW.out).mono ?_; rintro e wt2 ⟨rfl, m, pt⟩
 rw [h2] at pt ⊢
 simp only [if_false, if_true, Bool.false_eq_true] at pt
 replace BX := Lib.hid (m.box BX.out (by simp; omega))
 replace RX := Lib.hid (m.box RX.out (by simp; omega))
 replace MW := Lib.hid (MW.out.then m)
 replace HL := Lib.hid (Nat.le_trans HL.out m.size)
 try replace TT := Lib.hid (TT.out.mod m (fun b hb => by simp at hb; omega))
 try replace TB := Lib.hid (TB.out.mod m (fun b hb => by simp at hb; omega))
 try replace TE := Lib.hid (TE.out.mod m (fun b hb => by simp at hb; omega))
 replace PW := Lib.hid pt
 clear m pt
 go_wp2_with fail
 refine (take_any g d _ w_loop wt2 PW.out).mono ?_; rintro e wt3 ⟨rfl, m, pt⟩
 rw [h3] at pt ⊢
 simp only [if_false, if_true, Bool.false_eq_true] at pt
 replace BX := Lib.hid (m.box BX.out (by simp; omega))
 replace RX := Lib.hid (m.box RX.out (by simp; omega))
 replace MW := Lib.hid (MW.out.then m)
 replace HL := Lib.hid (Nat.le_trans HL.out m.size)
 try replace TT := Lib.hid (TT.out.mod m (fun b hb => by simp at hb; omega))
 try replace TB := Lib.hid (TB.out.mod m (fun b hb => by simp at hb; omega))
 try replace TE := Lib.hid (TE.out.mod m (fun b hb => by simp at hb; omega))
 replace PW := Lib.hid pt
 clear m pt
 go_wp2_with fail
 refine (num_any g d l.tail wt3 PW.out).mono ?_; rintro e w3 hN
 have m := hN.1
 replace BX := Lib.hid (m.box BX.out (by simp; omega))
 replace RX := Lib.hid (m.box RX.out (by simp; omega))
 replace MW := Lib.hid (MW.out.then m)
 replace HL := Lib.hid (Nat.le_trans HL.out m.size)
 try replace TT := Lib.hid (TT.out.mod m (fun b hb => by simp at hb; omega))
 try replace TB := Lib.hid (TB.out.mod m (fun b hb => by simp at hb; omega))
 try replace TE := Lib.hid (TE.out.mod m (fun b hb => by simp at hb; omega))
 rcases hN.parts with ⟨hp, er, ep, eq, ez, hne, rfl⟩ | ⟨kk, r1, v, hp, pN, rfl, rfl⟩
 ·have HN := Lib.hid hne
  clear hne
  have hq := HR.out
  rw [hp] at hq
  simp only [bind_bad] at hq
  subst hq
  try simp only [lastQ]
  go_wp2_with fail
  exact ⟨rfl, MW.out, er, ep, eq, ez, HN.out, rfl⟩
 have hq := HR.out
 rw [hp] at hq
 simp only [bind_ok] at hq
 replace HR := Lib.hid hq
 replace PW := Lib.hid pN
 clear hq hp pN
 clear hN m
 obtain ⟨⟨⟨⟨y0, y1⟩, y2, y3⟩, ⟨y4, y5⟩, y6, y7⟩, ⟨y8, y9⟩, y10⟩ := cells11 BX.out
 obtain ⟨⟨⟨⟨fr0, fr1⟩, fr2, fr3⟩, ⟨fr4, fr5⟩, fr6, fr7⟩, ⟨fr8, fr9⟩, fr10⟩ := frozen11 BX.out
 go_wp2_with fail
 clear y0 y1 y2 y3 y4 y5 y6 y7 y8 y9 y10 fr0 fr1 fr2 fr3 fr4 fr5 fr6 fr7 fr8 fr9 fr10
 obtain ⟨w4, hw⟩ : ∃ W, W = (w3.setCell ⟨bs, 0, none⟩ (.int .i64 6)).setCell ⟨bs, 4, none⟩ (.int .i64 kk) := ⟨_, rfl⟩
 have m : Mod [bs] w3 w4 := by rw [hw]; exact ((Mod.refl _ _).set (.inl (by simp)) _).set (.inl (by simp)) _
 replace BX : Hid (w4.heap[bs]? = some (.cells #[nv 6, sv [], sv [], sv [], nv kk, .slice none 0 0, .slice none 0 0, .slice none 0 0, nv p, nv q, nv z] 44 (0, 0))) := Lib.hid (by rw [hw]; exact heap_set' (heap_set' BX.out _ 0 rfl) _ 4 rfl)
 replace RX := Lib.hid (m.box RX.out (by simp; omega))
 replace PW := Lib.hid (PW.out.mod m (fun x hx => by simp at hx; omega))
 replace MW := Lib.hid (MW.out.trans m (fun x hx => .inr (by simp at hx; omega)))
 replace HL := Lib.hid (Nat.le_trans HL.out m.size)
 try replace TT := Lib.hid (TT.out.mod m (fun b hb => by simp at hb; omega))
 try replace TB := Lib.hid (TB.out.mod m (fun b hb => by simp at hb; omega))
 try replace TE := Lib.hid (TE.out.mod m (fun b hb => by simp at hb; omega))
 have hzw4 : w4.heap.size = w3.heap.size := by rw [hw]; simp
 rw [← hw]
 clear hw m
 refine (name_any g d r1 w4 PW.out).mono ?_; rintro e w5 hN
 have m := hN.1
 replace BX := Lib.hid (m.box BX.out (by simp; omega))
 replace RX := Lib.hid (m.box RX.out (by simp; omega))
 replace MW := Lib.hid (MW.out.then m)
 replace HL := Lib.hid (Nat.le_trans HL.out m.size)
 try replace TT := Lib.hid (TT.out.mod m (fun b hb => by simp at hb; omega))
 try replace TB := Lib.hid (TB.out.mod m (fun b hb => by simp at hb; omega))
 try replace TE := Lib.hid (TE.out.mod m (fun b hb => by simp at hb; omega))
 rcases hN.parts with ⟨hp, er, ep, eq, ez, hne, rfl⟩ | ⟨nm, r2, v, hp, pN, rfl, rfl, hnm⟩
 ·have HN := Lib.hid hne
  clear hne
  have hq := HR.out
  rw [hp] at hq
  simp only [bind_bad] at hq
  subst hq
  try simp only [lastQ]
  go_wp2_with fail
  exact ⟨rfl, MW.out, er, ep, eq, ez, HN.out, rfl⟩
 have hq := HR.out
 rw [hp] at hq
 simp only [bind_ok] at hq
 replace HR := Lib.hid hq
 replace PW := Lib.hid pN
 clear hq hp pN
 clear hN hnm m
 obtain ⟨⟨⟨⟨y0, y1⟩, y2, y3⟩, ⟨y4, y5⟩, y6, y7⟩, ⟨y8, y9⟩, y10⟩ := cells11 BX.out
 obtain ⟨⟨⟨⟨fr0, fr1⟩, fr2, fr3⟩, ⟨fr4, fr5⟩, fr6, fr7⟩, ⟨fr8, fr9⟩, fr10⟩ := frozen11 BX.out
 go_wp2_with fail
 clear y0 y1 y2 y3 y4 y5 y6 y7 y8 y9 y10 fr0 fr1 fr2 fr3 fr4 fr5 fr6 fr7 fr8 fr9 fr10
 obtain ⟨w6, hw⟩ : ∃ W, W = w5.setCell ⟨bs, 1, none⟩ (.string ⟨nm.toArray⟩) := ⟨_, rfl⟩
 have m : Mod [bs] w5 w6 := by rw [hw]; exact (Mod.refl _ _).set (.inl (by simp)) _
 replace BX : Hid (w6.heap[bs]? = some (.cells #[nv 6, sv nm, sv [], sv [], nv kk, .slice none 0 0, .slice none 0 0, .slice none 0 0, nv p, nv q, nv z] 44 (0, 0))) := Lib.hid (by rw [hw]; exact heap_set' BX.out _ 1 rfl)
 replace RX := Lib.hid (m.box RX.out (by simp; omega))
 replace PW := Lib.hid (PW.out.mod m (fun x hx => by simp at hx; omega))
 replace MW := Lib.hid (MW.out.trans m (fun x hx => .inr (by simp at hx; omega)))
 replace HL := Lib.hid (Nat.le_trans HL.out m.size)
 try replace TT := Lib.hid (TT.out.mod m (fun b hb => by simp at hb; omega))
 try replace TB := Lib.hid (TB.out.mod m (fun b hb => by simp at hb; omega))
 try replace TE := Lib.hid (TE.out.mod m (fun b hb => by simp at hb; omega))
 have hzw6 : w6.heap.size = w5.heap.size := by rw [hw]; simp
 rw [← hw]
 clear hw m
 have hnoB := bind_no HR.out HNO.out
 refine (HB.out g d r2 w6 PW.out hd hnoB).mono ?_; rintro e w7 hN
 have m := hN.1
 have hl0 := HL.out
 replace BX := Lib.hid (m.box BX.out (by simp; omega))
 replace RX := Lib.hid (m.box RX.out (by simp; omega))
 replace MW := Lib.hid (MW.out.then m)
 replace HL := Lib.hid (Nat.le_trans HL.out m.size)
 try replace TT := Lib.hid (TT.out.mod m (fun b hb => by simp at hb; omega))
 try replace TB := Lib.hid (TB.out.mod m (fun b hb => by simp at hb; omega))
 try replace TE := Lib.hid (TE.out.mod m (fun b hb => by simp at hb; omega))
 rcases hN.parts with ⟨hp, er, ep, eq, ez, hne, rfl⟩ | ⟨bd, r3, v, hp, pN, rfl, Ab, nb, cb, rfl, hT⟩
 ·have HN := Lib.hid hne
  clear hne
  have hq := HR.out
  rw [hp] at hq
  simp only [bind_bad] at hq
  subst hq
  try simp only [lastQ]
  go_wp2_with fail
  exact ⟨rfl, MW.out, er, ep, eq, ez, HN.out, rfl⟩
 have hq := HR.out
 rw [hp] at hq
 simp only [bind_ok] at hq
 replace HR := Lib.hid hq
 replace PW := Lib.hid pN
 clear hq hp pN
 have TB := Lib.hid (hT.more hl0)
 clear hN m hT hnoB hl0
 obtain ⟨⟨⟨⟨y0, y1⟩, y2, y3⟩, ⟨y4, y5⟩, y6, y7⟩, ⟨y8, y9⟩, y10⟩ := cells11 BX.out
 obtain ⟨⟨⟨⟨fr0, fr1⟩, fr2, fr3⟩, ⟨fr4, fr5⟩, fr6, fr7⟩, ⟨fr8, fr9⟩, fr10⟩ := frozen11 BX.out
 go_upto_region 27 with fail
 clear y0 y1 y2 y3 y4 y5 y6 y7 y8 y9 y10 fr0 fr1 fr2 fr3 fr4 fr5 fr6 fr7 fr8 fr9 fr10
 obtain ⟨w8, hw⟩ : ∃ W, W = w7.setCell ⟨bs, 6, none⟩ (.slice Ab nb cb) := ⟨_, rfl⟩
 have m : Mod [bs] w7 w8 := by rw [hw]; exact (Mod.refl _ _).set (.inl (by simp)) _
 replace BX : Hid (w8.heap[bs]? = some (.cells #[nv 6, sv nm, sv [], sv [], nv kk, .slice none 0 0, .slice Ab nb cb, .slice none 0 0, nv p, nv q, nv z] 44 (0, 0))) := Lib.hid (by rw [hw]; exact heap_set' BX.out _ 6 rfl)
 replace RX := Lib.hid (m.box RX.out (by simp; omega))
 replace PW := Lib.hid (PW.out.mod m (fun x hx => by simp at hx; omega))
 replace MW := Lib.hid (MW.out.trans m (fun x hx => .inr (by simp at hx; omega)))
 replace HL := Lib.hid (Nat.le_trans HL.out m.size)
 try replace TT := Lib.hid (TT.out.mod m (fun b hb => by simp at hb; omega))
 try replace TB := Lib.hid (TB.out.mod m (fun b hb => by simp at hb; omega))
 try replace TE := Lib.hid (TE.out.mod m (fun b hb => by simp at hb; omega))
 have hzw8 : w8.heap.size = w7.heap.size := by rw [hw]; simp
 rw [← hw]
 clear hw m
 have hq := HR.out
 subst hq
 obtain ⟨⟨⟨⟨x0, x1⟩, x2, x3⟩, ⟨x4, x5⟩, x6, x7⟩, ⟨x8, x9⟩, x10⟩ := cells11 BX.out
 obtain ⟨⟨⟨⟨y0, y1⟩, y2, y3⟩, ⟨y4, y5⟩, y6, y7⟩, ⟨y8, y9⟩, y10⟩ := cells11 RX.out
 obtain ⟨⟨⟨⟨fr0, fr1⟩, fr2, fr3⟩, ⟨fr4, fr5⟩, fr6, fr7⟩, ⟨fr8, fr9⟩, fr10⟩ := frozen11 RX.out
 have hnb : w.heap.size ≠ bs := by omega
 go_wp2_with fail
 refine bodyPost_ret (v := .agg #[nv 6, sv nm, sv [], sv [], nv kk, .slice none 0 0, .slice Ab nb cb, .slice none 0 0, nv p, nv q, nv z]) (by simp [results, Tryz.results141, go_sem, y0, y1, y2, y3, y4, y5, y6, y7, y8, y9, y10]) rfl ?_
 refine ⟨?_, ?_, _, rfl, [nv 6, sv nm, sv [], sv [], nv kk, .slice none 0 0, .slice Ab nb cb, .slice none 0 0, nv p, nv q, nv z], rfl, ?_⟩
 ·repeat (first | (with_reducible exact MW.out) | refine Mod.set ?_ (.inr (Nat.le_refl _)) _)
 ·repeat (first | (with_reducible exact PW.out) | refine Ps.set ?_ hlt _)
 ·refine (TreeS.mod (bs := [w.heap.size]) (TreeS.mk (s := .loop kk nm bd) RowX.nil_ rfl TB.out TB.out.one.1 RowS.nil_ rfl) ?_ (fun b hb => by simp at hb; omega)).more (show w.heap.size ≤ w2.heap.size by omega)
  repeat (first | (with_reducible exact Mod.refl _ _) | refine Mod.set ?_ (.inl (by simp)) _)
theorem st_if (f : Nat) (hB : BC f) (g d : Nat) (l : List Tok) (w : World) (h : Ps w g d l) (hd : d ≤ 16) (hno : pStmt (f + 1) d l ≠ .oof) (h0 : isT l w_let = false) (h1 : isT l w_del = false) (h2 : isT l w_if = true) :
  Calls Tryz.prog 141 #[.pointer (some ⟨g, 0, none⟩)] w (Out [g] g d w (pStmt (f + 1) d l) fun s w' v => ∃ vs, v = .agg vs.toArray ∧ TreeS w' w.heap.size s vs) := by
 obtain ⟨RT, hRT⟩ : ∃ RT, pStmt (f + 1) d l = RT := ⟨_, rfl⟩
 rw [hRT] at hno ⊢
 rw [pStmt_eq, h0, h1, h2] at hRT
 simp only [Bool.false_eq_true, if_false, if_true] at hRT
 have HR := Lib.hid hRT
 have HNO := Lib.hid hno
 have HS := Lib.hid h
 have hlt := h.lt
 have HB := Lib.hid hB
 clear hRT hno h hB
 go_enter Tryz.func141, Tryz.ntmps141
 go_wp2_with fail
 refine (here_any g d l _ (HS.out.alloc _)).mono ?_; rintro e w1 ⟨⟨p, q, z, rfl⟩, b1⟩
 have RX1 : Hid (w1.heap[w.heap.size]? = some (.cells #[nv 0, sv [], sv [], sv [], nv 0, .slice none 0 0, .slice none 0 0, .slice none 0 0, nv 0, nv 0, nv 0] 44 (0, 0))) := Lib.hid (box_next (alloc_at rfl) b1)
 have MW1 : Hid (Mod [g] w w1) := Lib.hid (((Mod.refl _ _).alloc _).then (.of_below b1))
 have PW1 := Lib.hid ((HS.out.alloc (.cells #[nv 0, sv [], sv [], sv [], nv 0, .slice none 0 0, .slice none 0 0, .slice none 0 0, nv 0, nv 0, nv 0] 44)).next b1)
 clear b1
 go_wp2_with fail
 have hw1 : w.heap.size < w1.heap.size := (Array.getElem?_eq_some_iff.1 RX1.out).1
 obtain ⟨w2, hw⟩ : ∃ W, W = w1.alloc (.cells #[nv 0, sv [], sv [], sv [], nv 0, .slice none 0 0, .slice none 0 0, .slice none 0 0, nv p, nv q, nv z] 44) := ⟨_, rfl⟩
 have RX : Hid (w2.heap[w.heap.size]? = some (.cells #[nv 0, sv [], sv [], sv [], nv 0, .slice none 0 0, .slice none 0 0, .slice none 0 0, nv 0, nv 0, nv 0] 44 (0, 0))) := Lib.hid (by rw [hw]; exact alloc_old' RX1.out)
 have BX1 : Hid (w2.heap[w1.heap.size]? = some (.cells #[nv 0, sv [], sv [], sv [], nv 0, .slice none 0 0, .slice none 0 0, .slice none 0 0, nv p, nv q, nv z] 44 (0, 0))) := Lib.hid (by rw [hw]; exact alloc_at rfl)
 have MW : Hid (Mod [g] w w2) := Lib.hid (by rw [hw]; exact MW1.out.alloc _)
 have PW : Hid (Ps w2 g d l) := Lib.hid (by rw [hw]; exact PW1.out.alloc _)
 have hz2 : w2.heap.size = w1.heap.size + 1 := by rw [hw]; simp
 have HL : Hid (w2.heap.size ≤ w2.heap.size) := Lib.hid (Nat.le_refl _)
 rw [← hw]
 clear hw RX1 MW1 PW1 HS
 obtain ⟨bs, hbs⟩ : ∃ bs, w1.heap.size = bs := ⟨_, rfl⟩
 rw [hbs] at BX1 hz2 hw1 ⊢
 have BX := BX1
 clear BX1 hbs
 refine (take_any g d _ w_let w2 PW.out).mono ?_; rintro e wt0 ⟨rfl, m, pt⟩
 rw [h0] at pt ⊢
 simp only [if_false, if_true, Bool.false_eq_true] at pt
 replace BX := Lib.hid (m.box BX.out (by simp; omega))
 replace RX := Lib.hid (m.box RX.out (by simp; omega))
 replace MW := Lib.hid (MW.out.then m)
 replace HL := Lib.hid (Nat.le_trans HL.out m.size)
 try replace TT := Lib.hid (TT.out.mod m (fun b hb => by simp at hb; omega))
 try replace TB := Lib.hid (TB.out.mod m (fun b hb => by simp at hb; omega))
 try replace TE := Lib.hid (TE.out.mod m (fun b hb => by simp at hb; omega))
 replace PW := Lib.hid pt
 clear m pt
 go_wp2_with fail
 refine (take_any g d _ w_del wt0 PW.out).mono ?_; rintro e wt1 ⟨rfl, m, pt⟩
 rw [h1] at pt ⊢
 simp only [if_false, if_true, Bool.false_eq_true] at pt
 replace BX := Lib.hid (m.box BX.out (by simp; omega))
 replace RX := Lib.hid (m.box RX.out (by simp; omega))
 replace MW := Lib.hid (MW.out.then m)
 replace HL := Lib.hid (Nat.le_trans HL.out m.size)
 try replace TT := Lib.hid (TT.out.mod m (fun b hb => by simp at hb; omega))
 try replace TB := Lib.hid (TB.out.mod m (fun b hb => by simp at hb; omega))
 try replace TE := Lib.hid (TE.out.mod m (fun b hb => by simp at hb; omega))
 replace PW := Lib.hid pt
 clear m pt
 go_wp2_with fail
 refine (take_any g d _ w_if wt1 PW.out).mono ?_; rintro e wt2 ⟨rfl, m, pt⟩
 rw [h2] at pt ⊢
 simp only [if_false, if_true, Bool.false_eq_true] at pt
 replace BX := Lib.hid (m.box BX.out (by simp; omega))
 replace RX := Lib.hid (m.box RX.out (by simp; omega))
 replace MW := Lib.hid (MW.out.then m)
 replace HL := Lib.hid (Nat.le_trans HL.out m.size)
 try replace TT := Lib.hid (TT.out.mod m (fun b hb => by simp at hb; omega))
 try replace TB := Lib.hid (TB.out.mod m (fun b hb => by simp at hb; omega))
 try replace TE := Lib.hid (TE.out.mod m (fun b hb => by simp at hb; omega))
 replace PW := Lib.hid pt
 clear m pt
 go_wp2_with fail
 have hnoE := bind_no HR.out HNO.out
 refine (expr_t f g d 0 l.tail wt2 PW.out hd hnoE).mono ?_; rintro e w6 hN
 have m := hN.1
 have hl0 := HL.out
 replace BX := Lib.hid (m.box BX.out (by simp; omega))
 replace RX := Lib.hid (m.box RX.out (by simp; omega))
 replace MW := Lib.hid (MW.out.then m)
 replace HL := Lib.hid (Nat.le_trans HL.out m.size)
 try replace TT := Lib.hid (TT.out.mod m (fun b hb => by simp at hb; omega))
 try replace TB := Lib.hid (TB.out.mod m (fun b hb => by simp at hb; omega))
 try replace TE := Lib.hid (TE.out.mod m (fun b hb => by simp at hb; omega))
 rcases hN.parts with ⟨hp, er, ep, eq, ez, hne, rfl⟩ | ⟨x, r3, v, hp, pN, rfl, vs, rfl, hT⟩
 ·have HN := Lib.hid hne
  clear hne
  have hq := HR.out
  rw [hp] at hq
  simp only [bind_bad] at hq
  subst hq
  try simp only [lastQ]
  go_wp2_with fail
  exact ⟨rfl, MW.out, er, ep, eq, ez, HN.out, rfl⟩
 have hq := HR.out
 rw [hp] at hq
 simp only [bind_ok] at hq
 replace HR := Lib.hid hq
 replace PW := Lib.hid pN
 clear hq hp pN
 obtain ⟨A, n, c, p1, q1, z1, rfl⟩ := hT.form
 have TT := Lib.hid (hT.more hl0)
 rw [exV]
 have hbb : bs < w6.heap.size := (Array.getElem?_eq_some_iff.1 BX.out).1
 have hrr : w.heap.size < w6.heap.size := (Array.getElem?_eq_some_iff.1 RX.out).1
 clear hN m hT hnoE hl0
 obtain ⟨⟨⟨⟨y0, y1⟩, y2, y3⟩, ⟨y4, y5⟩, y6, y7⟩, ⟨y8, y9⟩, y10⟩ := cells11 BX.out
 obtain ⟨⟨⟨⟨fr0, fr1⟩, fr2, fr3⟩, ⟨fr4, fr5⟩, fr6, fr7⟩, ⟨fr8, fr9⟩, fr10⟩ := frozen11 BX.out
 go_wp2_with fail
 clear y0 y1 y2 y3 y4 y5 y6 y7 y8 y9 y10 fr0 fr1 fr2 fr3 fr4 fr5 fr6 fr7 fr8 fr9 fr10
 obtain ⟨w7, hw⟩ : ∃ W, W = ((w6.setCell ⟨bs, 0, none⟩ (.int .i64 5)).setCell ⟨bs, 5, none⟩ (.slice (some ⟨w6.heap.size, 0, none⟩) 1 1)).alloc (.cells #[nv (hdK x), nv (hdV x).k, nv (hdV x).n, sv (hdV x).s, sv (hdN x), sv (hdC x), nv (hdO x : Nat), .slice A n c, nv p1, nv q1, nv z1] 59) := ⟨_, rfl⟩
 have m : Mod [bs] w6 w7 := by rw [hw]; exact (((Mod.refl _ _).set (.inl (by simp)) _).set (.inl (by simp)) _).alloc _
 replace BX : Hid (w7.heap[bs]? = some (.cells #[nv 5, sv [], sv [], sv [], nv 0, .slice (some ⟨w6.heap.size, 0, none⟩) 1 1, .slice none 0 0, .slice none 0 0, nv p, nv q, nv z] 44 (0, 0))) := Lib.hid (by rw [hw]; exact alloc_old' (heap_set' (heap_set' BX.out _ 0 rfl) _ 5 rfl))
 have hr : w7.heap[w6.heap.size]? = some (.cells (exC x (.slice A n c) p1 q1 z1).toArray 59 (0, 0)) := by rw [hw]; exact alloc_at (by simp)
 have hl0 := HL.out
 replace RX := Lib.hid (m.box RX.out (by simp; omega))
 replace PW := Lib.hid (PW.out.mod m (fun x hx => by simp at hx; omega))
 replace MW := Lib.hid (MW.out.trans m (fun x hx => .inr (by simp at hx; omega)))
 replace HL := Lib.hid (Nat.le_trans HL.out m.size)
 replace TT := Lib.hid (RowX.one (TT.out.mod m (fun b hb => by simp at hb; omega)) hr hl0 rfl)
 have hzw7 : w7.heap.size = w6.heap.size + 1 := by rw [hw]; simp
 rw [← hw]
 clear hw m hr hl0
 have hnoB := bind_no HR.out HNO.out
 refine (HB.out g d r3 w7 PW.out hd hnoB).mono ?_; rintro e w8 hN
 have m := hN.1
 have hl0 := HL.out
 replace BX := Lib.hid (m.box BX.out (by simp; omega))
 replace RX := Lib.hid (m.box RX.out (by simp; omega))
 replace MW := Lib.hid (MW.out.then m)
 replace HL := Lib.hid (Nat.le_trans HL.out m.size)
 try replace TT := Lib.hid (TT.out.mod m (fun b hb => by simp at hb; omega))
 try replace TB := Lib.hid (TB.out.mod m (fun b hb => by simp at hb; omega))
 try replace TE := Lib.hid (TE.out.mod m (fun b hb => by simp at hb; omega))
 rcases hN.parts with ⟨hp, er, ep, eq, ez, hne, rfl⟩ | ⟨bd, r4, v, hp, pN, rfl, Ab, nb, cb, rfl, hT⟩
 ·have HN := Lib.hid hne
  clear hne
  have hq := HR.out
  rw [hp] at hq
  simp only [bind_bad] at hq
  subst hq
  try simp only [lastQ]
  go_wp2_with fail
  exact ⟨rfl, MW.out, er, ep, eq, ez, HN.out, rfl⟩
 have hq := HR.out
 rw [hp] at hq
 simp only [bind_ok] at hq
 replace HR := Lib.hid hq
 replace PW := Lib.hid pN
 clear hq hp pN
 have TB := Lib.hid (hT.more hl0)
 clear hN m hT hnoB hl0
 obtain ⟨⟨⟨⟨y0, y1⟩, y2, y3⟩, ⟨y4, y5⟩, y6, y7⟩, ⟨y8, y9⟩, y10⟩ := cells11 BX.out
 obtain ⟨⟨⟨⟨fr0, fr1⟩, fr2, fr3⟩, ⟨fr4, fr5⟩, fr6, fr7⟩, ⟨fr8, fr9⟩, fr10⟩ := frozen11 BX.out
 go_wp2_with fail
 clear y0 y1 y2 y3 y4 y5 y6 y7 y8 y9 y10 fr0 fr1 fr2 fr3 fr4 fr5 fr6 fr7 fr8 fr9 fr10
 obtain ⟨w9, hw⟩ : ∃ W, W = w8.setCell ⟨bs, 6, none⟩ (.slice Ab nb cb) := ⟨_, rfl⟩
 have m : Mod [bs] w8 w9 := by rw [hw]; exact (Mod.refl _ _).set (.inl (by simp)) _
 replace BX : Hid (w9.heap[bs]? = some (.cells #[nv 5, sv [], sv [], sv [], nv 0, .slice (some ⟨w6.heap.size, 0, none⟩) 1 1, .slice Ab nb cb, .slice none 0 0, nv p, nv q, nv z] 44 (0, 0))) := Lib.hid (by rw [hw]; exact heap_set' BX.out _ 6 rfl)
 replace RX := Lib.hid (m.box RX.out (by simp; omega))
 replace PW := Lib.hid (PW.out.mod m (fun x hx => by simp at hx; omega))
 replace MW := Lib.hid (MW.out.trans m (fun x hx => .inr (by simp at hx; omega)))
 replace HL := Lib.hid (Nat.le_trans HL.out m.size)
 try replace TT := Lib.hid (TT.out.mod m (fun b hb => by simp at hb; omega))
 try replace TB := Lib.hid (TB.out.mod m (fun b hb => by simp at hb; omega))
 try replace TE := Lib.hid (TE.out.mod m (fun b hb => by simp at hb; omega))
 have hzw9 : w9.heap.size = w8.heap.size := by rw [hw]; simp
 rw [← hw]
 clear hw m
 cases hE : isT r4 w_else with
 | false =>
  have hq := HR.out
  rw [hE] at hq
  simp only [Bool.false_eq_true, if_false] at hq
  replace HR := Lib.hid hq
  clear hq
  refine (take_any g d _ w_else w9 PW.out).mono ?_; rintro e wA ⟨rfl, m, pt⟩
  rw [hE] at pt ⊢
  simp only [if_false, if_true, Bool.false_eq_true] at pt
  replace BX := Lib.hid (m.box BX.out (by simp; omega))
  replace RX := Lib.hid (m.box RX.out (by simp; omega))
  replace MW := Lib.hid (MW.out.then m)
  replace HL := Lib.hid (Nat.le_trans HL.out m.size)
  try replace TT := Lib.hid (TT.out.mod m (fun b hb => by simp at hb; omega))
  try replace TB := Lib.hid (TB.out.mod m (fun b hb => by simp at hb; omega))
  try replace TE := Lib.hid (TE.out.mod m (fun b hb => by simp at hb; omega))
  replace PW := Lib.hid pt
  clear m pt
  have hq := HR.out
  subst hq
  obtain ⟨⟨⟨⟨x0, x1⟩, x2, x3⟩, ⟨x4, x5⟩, x6, x7⟩, ⟨x8, x9⟩, x10⟩ := cells11 BX.out
  obtain ⟨⟨⟨⟨y0, y1⟩, y2, y3⟩, ⟨y4, y5⟩, y6, y7⟩, ⟨y8, y9⟩, y10⟩ := cells11 RX.out
  obtain ⟨⟨⟨⟨fr0, fr1⟩, fr2, fr3⟩, ⟨fr4, fr5⟩, fr6, fr7⟩, ⟨fr8, fr9⟩, fr10⟩ := frozen11 RX.out
  have hnb : w.heap.size ≠ bs := by omega
  go_wp2_with fail
  refine bodyPost_ret (v := .agg #[nv 5, sv [], sv [], sv [], nv 0, .slice (some ⟨w6.heap.size, 0, none⟩) 1 1, .slice Ab nb cb, .slice none 0 0, nv p, nv q, nv z]) (by simp [results, Tryz.results141, go_sem, y0, y1, y2, y3, y4, y5, y6, y7, y8, y9, y10]) rfl ?_
  refine ⟨?_, ?_, _, rfl, [nv 5, sv [], sv [], sv [], nv 0, .slice (some ⟨w6.heap.size, 0, none⟩) 1 1, .slice Ab nb cb, .slice none 0 0, nv p, nv q, nv z], rfl, ?_⟩
  ·repeat (first | (with_reducible exact MW.out) | refine Mod.set ?_ (.inr (Nat.le_refl _)) _)
  ·repeat (first | (with_reducible exact PW.out) | refine Ps.set ?_ hlt _)
  ·refine (TreeS.mod (bs := [w.heap.size]) (TreeS.mk (s := .if_ x bd .nil) TT.out rfl TB.out TB.out.one.1 RowS.nil_ rfl) ?_ (fun b hb => by simp at hb; omega)).more (show w.heap.size ≤ w2.heap.size by omega)
   repeat (first | (with_reducible exact Mod.refl _ _) | refine Mod.set ?_ (.inl (by simp)) _)
 | true =>
  have hq := HR.out
  rw [hE] at hq
  simp only [if_true] at hq
  replace HR := Lib.hid hq
  clear hq
  refine (take_any g d _ w_else w9 PW.out).mono ?_; rintro e wA ⟨rfl, m, pt⟩
  rw [hE] at pt ⊢
  simp only [if_false, if_true, Bool.false_eq_true] at pt
  replace BX := Lib.hid (m.box BX.out (by simp; omega))
  replace RX := Lib.hid (m.box RX.out (by simp; omega))
  replace MW := Lib.hid (MW.out.then m)
  replace HL := Lib.hid (Nat.le_trans HL.out m.size)
  try replace TT := Lib.hid (TT.out.mod m (fun b hb => by simp at hb; omega))
  try replace TB := Lib.hid (TB.out.mod m (fun b hb => by simp at hb; omega))
  try replace TE := Lib.hid (TE.out.mod m (fun b hb => by simp at hb; omega))
  replace PW := Lib.hid pt
  clear m pt
  go_wp2_with fail
  have hnoB := bind_no HR.out HNO.out
  refine (HB.out g d r4.tail wA PW.out hd hnoB).mono ?_; rintro e wB hN
  have m := hN.1
  have hl0 := HL.out
  replace BX := Lib.hid (m.box BX.out (by simp; omega))
  replace RX := Lib.hid (m.box RX.out (by simp; omega))
  replace MW := Lib.hid (MW.out.then m)
  replace HL := Lib.hid (Nat.le_trans HL.out m.size)
  try replace TT := Lib.hid (TT.out.mod m (fun b hb => by simp at hb; omega))
  try replace TB := Lib.hid (TB.out.mod m (fun b hb => by simp at hb; omega))
  try replace TE := Lib.hid (TE.out.mod m (fun b hb => by simp at hb; omega))
  rcases hN.parts with ⟨hp, er, ep, eq, ez, hne, rfl⟩ | ⟨be, r5, v, hp, pN, rfl, Ae, ne, ce, rfl, hT⟩
  ·have HN := Lib.hid hne
   clear hne
   have hq := HR.out
   rw [hp] at hq
   simp only [bind_bad] at hq
   subst hq
   try simp only [lastQ]
   go_wp2_with fail
   exact ⟨rfl, MW.out, er, ep, eq, ez, HN.out, rfl⟩
  have hq := HR.out
  rw [hp] at hq
  simp only [bind_ok] at hq
  replace HR := Lib.hid hq
  replace PW := Lib.hid pN
  clear hq hp pN
  have TE := Lib.hid (hT.more hl0)
  clear hN m hT hnoB hl0
  obtain ⟨⟨⟨⟨y0, y1⟩, y2, y3⟩, ⟨y4, y5⟩, y6, y7⟩, ⟨y8, y9⟩, y10⟩ := cells11 BX.out
  obtain ⟨⟨⟨⟨fr0, fr1⟩, fr2, fr3⟩, ⟨fr4, fr5⟩, fr6, fr7⟩, ⟨fr8, fr9⟩, fr10⟩ := frozen11 BX.out
  go_upto_region 27 with fail
  clear y0 y1 y2 y3 y4 y5 y6 y7 y8 y9 y10 fr0 fr1 fr2 fr3 fr4 fr5 fr6 fr7 fr8 fr9 fr10
  obtain ⟨wC, hw⟩ : ∃ W, W = wB.setCell ⟨bs, 7, none⟩ (.slice Ae ne ce) := ⟨_, rfl⟩
  have m : Mod [bs] wB wC := by rw [hw]; exact (Mod.refl _ _).set (.inl (by simp)) _
  replace BX : Hid (wC.heap[bs]? = some (.cells #[nv 5, sv [], sv [], sv [], nv 0, .slice (some ⟨w6.heap.size, 0, none⟩) 1 1, .slice Ab nb cb, .slice Ae ne ce, nv p, nv q, nv z] 44 (0, 0))) := Lib.hid (by rw [hw]; exact heap_set' BX.out _ 7 rfl)
  replace RX := Lib.hid (m.box RX.out (by simp; omega))
  replace PW := Lib.hid (PW.out.mod m (fun x hx => by simp at hx; omega))
  replace MW := Lib.hid (MW.out.trans m (fun x hx => .inr (by simp at hx; omega)))
  replace HL := Lib.hid (Nat.le_trans HL.out m.size)
  try replace TT := Lib.hid (TT.out.mod m (fun b hb => by simp at hb; omega))
  try replace TB := Lib.hid (TB.out.mod m (fun b hb => by simp at hb; omega))
  try replace TE := Lib.hid (TE.out.mod m (fun b hb => by simp at hb; omega))
  have hzwC : wC.heap.size = wB.heap.size := by rw [hw]; simp
  rw [← hw]
  clear hw m
  have hq := HR.out
  subst hq
  obtain ⟨⟨⟨⟨x0, x1⟩, x2, x3⟩, ⟨x4, x5⟩, x6, x7⟩, ⟨x8, x9⟩, x10⟩ := cells11 BX.out
  obtain ⟨⟨⟨⟨y0, y1⟩, y2, y3⟩, ⟨y4, y5⟩, y6, y7⟩, ⟨y8, y9⟩, y10⟩ := cells11 RX.out
  obtain ⟨⟨⟨⟨fr0, fr1⟩, fr2, fr3⟩, ⟨fr4, fr5⟩, fr6, fr7⟩, ⟨fr8, fr9⟩, fr10⟩ := frozen11 RX.out
  have hnb : w.heap.size ≠ bs := by omega
  go_wp2_with fail
  refine bodyPost_ret (v := .agg #[nv 5, sv [], sv [], sv [], nv 0, .slice (some ⟨w6.heap.size, 0, none⟩) 1 1, .slice Ab nb cb, .slice Ae ne ce, nv p, nv q, nv z]) (by simp [results, Tryz.results141, go_sem, y0, y1, y2, y3, y4, y5, y6, y7, y8, y9, y10]) rfl ?_
  refine ⟨?_, ?_, _, rfl, [nv 5, sv [], sv [], sv [], nv 0, .slice (some ⟨w6.heap.size, 0, none⟩) 1 1, .slice Ab nb cb, .slice Ae ne ce, nv p, nv q, nv z], rfl, ?_⟩
  ·repeat (first | (with_reducible exact MW.out) | refine Mod.set ?_ (.inr (Nat.le_refl _)) _)
  ·repeat (first | (with_reducible exact PW.out) | refine Ps.set ?_ hlt _)
  ·refine (TreeS.mod (bs := [w.heap.size]) (TreeS.mk (s := .if_ x bd be) TT.out rfl TB.out TB.out.one.1 TE.out TE.out.one.1) ?_ (fun b hb => by simp at hb; omega)).more (show w.heap.size ≤ w2.heap.size by omega)
   repeat (first | (with_reducible exact Mod.refl _ _) | refine Mod.set ?_ (.inl (by simp)) _)
theorem st_each (f : Nat) (hB : BC f) (g d : Nat) (l : List Tok) (w : World) (h : Ps w g d l) (hd : d ≤ 16) (hno : pStmt (f + 1) d l ≠ .oof) (h0 : isT l w_let = false) (h1 : isT l w_del = false) (h2 : isT l w_if = false) (h3 : isT l w_loop = false) (h4 : isT l w_each = true) :
    Calls Tryz.prog 141 #[.pointer (some ⟨g, 0, none⟩)] w (Out [g] g d w (pStmt (f + 1) d l) fun s w' v => ∃ vs, v = .agg vs.toArray ∧ TreeS w' w.heap.size s vs) := by
  obtain ⟨RT, hRT⟩ : ∃ RT, pStmt (f + 1) d l = RT := ⟨_, rfl⟩
  rw [hRT] at hno ⊢
  rw [pStmt_eq, h0, h1, h2, h3, h4] at hRT
  simp only [Bool.false_eq_true, if_false, if_true] at hRT
  have HR := Lib.hid hRT
  have HNO := Lib.hid hno
  have HS := Lib.hid h
  have hlt := h.lt
  have HB := Lib.hid hB
  clear hRT hno h hB
  go_enter Tryz.func141, Tryz.ntmps141
  go_wp2_with fail
  refine (here_any g d l _ (HS.out.alloc _)).mono ?_; rintro e w1 ⟨⟨p, q, z, rfl⟩, b1⟩
  have RX1 : Hid (w1.heap[w.heap.size]? = some (.cells #[nv 0, sv [], sv [], sv [], nv 0, .slice none 0 0, .slice none 0 0, .slice none 0 0, nv 0, nv 0, nv 0] 44 (0, 0))) := Lib.hid (box_next (alloc_at rfl) b1)
  have MW1 : Hid (Mod [g] w w1) := Lib.hid (((Mod.refl _ _).alloc _).then (.of_below b1))
  have PW1 := Lib.hid ((HS.out.alloc (.cells #[nv 0, sv [], sv [], sv [], nv 0, .slice none 0 0, .slice none 0 0, .slice none 0 0, nv 0, nv 0, nv 0] 44)).next b1)
  clear b1
  go_wp2_with fail
  have hw1 : w.heap.size < w1.heap.size := (Array.getElem?_eq_some_iff.1 RX1.out).1
  obtain ⟨w2, hw⟩ : ∃ W, W = w1.alloc (.cells #[nv 0, sv [], sv [], sv [], nv 0, .slice none 0 0, .slice none 0 0, .slice none 0 0, nv p, nv q, nv z] 44) := ⟨_, rfl⟩
  have RX : Hid (w2.heap[w.heap.size]? = some (.cells #[nv 0, sv [], sv [], sv [], nv 0, .slice none 0 0, .slice none 0 0, .slice none 0 0, nv 0, nv 0, nv 0] 44 (0, 0))) := Lib.hid (by rw [hw]; exact alloc_old' RX1.out)
  have BX1 : Hid (w2.heap[w1.heap.size]? = some (.cells #[nv 0, sv [], sv [], sv [], nv 0, .slice none 0 0, .slice none 0 0, .slice none 0 0, nv p, nv q, nv z] 44 (0, 0))) := Lib.hid (by rw [hw]; exact alloc_at rfl)
  have MW : Hid (Mod [g] w w2) := Lib.hid (by rw [hw]; exact MW1.out.alloc _)
  have PW : Hid (Ps w2 g d l) := Lib.hid (by rw [hw]; exact PW1.out.alloc _)
  have hz2 : w2.heap.size = w1.heap.size + 1 := by rw [hw]; simp
  have HL : Hid (w2.heap.size ≤ w2.heap.size) := Lib.hid (Nat.le_refl _)
  rw [← hw]
  clear hw RX1 MW1 PW1 HS
  obtain ⟨bs, hbs⟩ : ∃ bs, w1.heap.size = bs := ⟨_, rfl⟩
  rw [hbs] at BX1 hz2 hw1 ⊢
  have BX := BX1
  clear BX1 hbs
  refine (take_any g d _ w_let w2 PW.out).mono ?_; rintro e wt0 ⟨rfl, m, pt⟩
  rw [h0] at pt ⊢
  simp only [if_false, if_true, Bool.false_eq_true] at pt
  replace BX := Lib.hid (m.box BX.out (by simp; omega))
  replace RX := Lib.hid (m.box RX.out (by simp; omega))
  replace MW := Lib.hid (MW.out.then m)
  replace HL := Lib.hid (Nat.le_trans HL.out m.size)
  try replace TT := Lib.hid (TT.out.mod m (fun b hb => by simp at hb; omega))
  try replace TB := Lib.hid (TB.out.mod m (fun b hb => by simp at hb; omega))
  try replace TE := Lib.hid (TE.out.mod m (fun b hb => by simp at hb; omega))
  replace PW := Lib.hid pt
  clear m pt
  go_wp2_with fail
  refine (take_any g d _ w_del wt0 PW.out).mono ?_; rintro e wt1 ⟨rfl, m, pt⟩
  rw [h1] at pt ⊢
  simp only [if_false, if_true, Bool.false_eq_true] at pt
  replace BX := Lib.hid (m.box BX.out (by simp; omega))
  replace RX := Lib.hid (m.box RX.out (by simp; omega))
  replace MW := Lib.hid (MW.out.then m)
  replace HL := Lib.hid (Nat.le_trans HL.out m.size)
  try replace TT := Lib.hid (TT.out.mod m (fun b hb => by simp at hb; omega))
  try replace TB := Lib.hid (TB.out.mod m (fun b hb => by simp at hb; omega))
  try replace TE := Lib.hid (TE.out.mod m (fun b hb => by simp at hb; omega))
  replace PW := Lib.hid pt
  clear m pt
  go_wp2_with fail
  refine (take_any g d _ w_if wt1 PW.out).mono ?_; rintro e wt2 ⟨rfl, m, pt⟩
  rw [h2] at pt ⊢
  simp only [if_false, if_true, Bool.false_eq_true] at pt
  replace BX := Lib.hid (m.box BX.out (by simp; omega))
  replace RX := Lib.hid (m.box RX.out (by simp; omega))
  replace MW := Lib.hid (MW.out.then m)
  replace HL := Lib.hid (Nat.le_trans HL.out m.size)
  try replace TT := Lib.hid (TT.out.mod m (fun b hb => by simp at hb; omega))
  try replace TB := Lib.hid (TB.out.mod m (fun b hb => by simp at hb; omega))
  try replace TE := Lib.hid (TE.out.mod m (fun b hb => by simp at hb; omega))
  replace PW := Lib.hid pt
  clear m pt
  go_wp2_with fail
  refine (take_any g d _ w_loop wt2 PW.out).mono ?_; rintro e wt3 ⟨rfl, m, pt⟩
  rw [h3] at pt ⊢
  simp only [if_false, if_true, Bool.false_eq_true] at pt
  replace BX := Lib.hid (m.box BX.out (by simp; omega))
  replace RX := Lib.hid (m.box RX.out (by simp; omega))
  replace MW := Lib.hid (MW.out.then m)
  replace HL := Lib.hid (Nat.le_trans HL.out m.size)
  try replace TT := Lib.hid (TT.out.mod m (fun b hb => by simp at hb; omega))
  try replace TB := Lib.hid (TB.out.mod m (fun b hb => by simp at hb; omega))
  try replace TE := Lib.hid (TE.out.mod m (fun b hb => by simp at hb; omega))
  replace PW := Lib.hid pt
  clear m pt
  go_wp2_with fail
  refine (take_any g d _ w_each wt3 PW.out).mono ?_; rintro e wt4 ⟨rfl, m, pt⟩
  rw [h4] at pt ⊢
  simp only [if_false, if_true, Bool.false_eq_true] at pt
  replace BX := Lib.hid (m.box BX.out (by simp; omega))
  replace RX := Lib.hid (m.box RX.out (by simp; omega))
  replace MW := Lib.hid (MW.out.then m)
  replace HL := Lib.hid (Nat.le_trans HL.out m.size)
  try replace TT := Lib.hid (TT.out.mod m (fun b hb => by simp at hb; omega))
  try replace TB := Lib.hid (TB.out.mod m (fun b hb => by simp at hb; omega))
  try replace TE := Lib.hid (TE.out.mod m (fun b hb => by simp at hb; omega))
  replace PW := Lib.hid pt
  clear m pt
  go_wp2_with fail
  have hnoQ : pEach f d l.tail ≠ .oof := by
    have := HNO.out
    rw [← HR.out] at this
    exact this
  refine (each_t f HB.out g d bs p q z l.tail wt4 PW.out hd hnoQ BX.out (by omega)).mono ?_; rintro e w3 hN
  have m : Mod [g, bs] wt4 w3 := hN.1
  have hl0 := HL.out
  have hbb : bs < wt4.heap.size := (Array.getElem?_eq_some_iff.1 BX.out).1
  replace RX := Lib.hid (m.box RX.out (by simp; omega))
  replace MW := Lib.hid (MW.out.trans m (fun x hx => by simp at hx; rcases hx with rfl | rfl; · exact .inl (by simp)
                                                        · exact .inr (by omega)))
  clear BX
  rcases hN.parts with ⟨hp, er, ep, eq, ez, hne, rfl⟩ | ⟨s, r1, v, hp, pN, rfl, rfl, vs, hX, hT⟩
  · have HN := Lib.hid hne
    clear hne
    have hq := HR.out
    rw [hp] at hq
    subst hq
    go_wp2_with fail
    exact ⟨rfl, MW.out, er, ep, eq, ez, HN.out, rfl⟩
  have hq := HR.out
  rw [hp] at hq
  replace HR := Lib.hid hq
  replace PW := Lib.hid pN
  obtain ⟨A, B, E, n, c, m', dd, k, ff, p1, q1, z1, rfl⟩ := hT.form
  have BX : Hid (w3.heap[bs]? = some (.cells #[nv (stK s), sv (stN s), sv (stT s), sv (stC s), nv (stI s), .slice A n c, .slice B m' dd, .slice E k ff, nv p1, nv q1, nv z1] 44 (0, 0))) := Lib.hid hX
  have TQ := Lib.hid (hT.more hl0)
  clear hN m hq hp pN hX hT hnoQ hl0
  have hq := HR.out
  subst hq
  obtain ⟨⟨⟨⟨x0, x1⟩, x2, x3⟩, ⟨x4, x5⟩, x6, x7⟩, ⟨x8, x9⟩, x10⟩ := cells11 BX.out
  obtain ⟨⟨⟨⟨y0, y1⟩, y2, y3⟩, ⟨y4, y5⟩, y6, y7⟩, ⟨y8, y9⟩, y10⟩ := cells11 RX.out
  obtain ⟨⟨⟨⟨fr0, fr1⟩, fr2, fr3⟩, ⟨fr4, fr5⟩, fr6, fr7⟩, ⟨fr8, fr9⟩, fr10⟩ := frozen11 RX.out
  have hnb : w.heap.size ≠ bs := by omega
  go_wp2_with fail
  refine bodyPost_ret (v := .agg #[nv (stK s), sv (stN s), sv (stT s), sv (stC s), nv (stI s), .slice A n c, .slice B m' dd, .slice E k ff, nv p1, nv q1, nv z1]) (by simp [results, Tryz.results141, go_sem, y0, y1, y2, y3, y4, y5, y6, y7, y8, y9, y10]) rfl ?_
  refine ⟨?_, ?_, _, rfl, [nv (stK s), sv (stN s), sv (stT s), sv (stC s), nv (stI s), .slice A n c, .slice B m' dd, .slice E k ff, nv p1, nv q1, nv z1], rfl, ?_⟩
  · repeat (first | (with_reducible exact MW.out) | refine Mod.set ?_ (.inr (Nat.le_refl _)) _)
  · repeat (first | (with_reducible exact PW.out) | refine Ps.set ?_ hlt _)
  · refine (TreeS.mod (bs := [w.heap.size]) TQ.out ?_ (fun b hb => by simp at hb; omega)).more (show w.heap.size ≤ w2.heap.size by omega)
    repeat (first | (with_reducible exact Mod.refl _ _) | refine Mod.set ?_ (.inl (by simp)) _)
theorem st_asg (f : Nat) (hB : BC f) (g d : Nat) (l : List Tok) (w : World) (h : Ps w g d l) (hd : d ≤ 16) (hno : pStmt (f + 1) d l ≠ .oof) (h0 : isT l w_let = false) (h1 : isT l w_del = false) (h2 : isT l w_if = false) (h3 : isT l w_loop = false) (h4 : isT l w_each = false) (h5 : isT l w_rollback = false) (h6 : isT l w_emit = false) :
    Calls Tryz.prog 141 #[.pointer (some ⟨g, 0, none⟩)] w (Out [g] g d w (pStmt (f + 1) d l) fun s w' v => ∃ vs, v = .agg vs.toArray ∧ TreeS w' w.heap.size s vs) := by
  obtain ⟨RT, hRT⟩ : ∃ RT, pStmt (f + 1) d l = RT := ⟨_, rfl⟩
  rw [hRT] at hno ⊢
  rw [pStmt_eq, h0, h1, h2, h3, h4, h5, h6] at hRT
  simp only [Bool.false_eq_true, if_false, if_true] at hRT
  have HR := Lib.hid hRT
  have HNO := Lib.hid hno
  have HS := Lib.hid h
  have hlt := h.lt
  have HB := Lib.hid hB
  clear hRT hno h hB
  go_enter Tryz.func141, Tryz.ntmps141
  go_wp2_with fail
  refine (here_any g d l _ (HS.out.alloc _)).mono ?_; rintro e w1 ⟨⟨p, q, z, rfl⟩, b1⟩
  have RX1 : Hid (w1.heap[w.heap.size]? = some (.cells #[nv 0, sv [], sv [], sv [], nv 0, .slice none 0 0, .slice none 0 0, .slice none 0 0, nv 0, nv 0, nv 0] 44 (0, 0))) := Lib.hid (box_next (alloc_at rfl) b1)
  have MW1 : Hid (Mod [g] w w1) := Lib.hid (((Mod.refl _ _).alloc _).then (.of_below b1))
  have PW1 := Lib.hid ((HS.out.alloc (.cells #[nv 0, sv [], sv [], sv [], nv 0, .slice none 0 0, .slice none 0 0, .slice none 0 0, nv 0, nv 0, nv 0] 44)).next b1)
  clear b1
  go_wp2_with fail
  have hw1 : w.heap.size < w1.heap.size := (Array.getElem?_eq_some_iff.1 RX1.out).1
  obtain ⟨w2, hw⟩ : ∃ W, W = w1.alloc (.cells #[nv 0, sv [], sv [], sv [], nv 0, .slice none 0 0, .slice none 0 0, .slice none 0 0, nv p, nv q, nv z] 44) := ⟨_, rfl⟩
  have RX : Hid (w2.heap[w.heap.size]? = some (.cells #[nv 0, sv [], sv [], sv [], nv 0, .slice none 0 0, .slice none 0 0, .slice none 0 0, nv 0, nv 0, nv 0] 44 (0, 0))) := Lib.hid (by rw [hw]; exact alloc_old' RX1.out)
  have BX1 : Hid (w2.heap[w1.heap.size]? = some (.cells #[nv 0, sv [], sv [], sv [], nv 0, .slice none 0 0, .slice none 0 0, .slice none 0 0, nv p, nv q, nv z] 44 (0, 0))) := Lib.hid (by rw [hw]; exact alloc_at rfl)
  have MW : Hid (Mod [g] w w2) := Lib.hid (by rw [hw]; exact MW1.out.alloc _)
  have PW : Hid (Ps w2 g d l) := Lib.hid (by rw [hw]; exact PW1.out.alloc _)
  have hz2 : w2.heap.size = w1.heap.size + 1 := by rw [hw]; simp
  have HL : Hid (w2.heap.size ≤ w2.heap.size) := Lib.hid (Nat.le_refl _)
  rw [← hw]
  clear hw RX1 MW1 PW1 HS
  obtain ⟨bs, hbs⟩ : ∃ bs, w1.heap.size = bs := ⟨_, rfl⟩
  rw [hbs] at BX1 hz2 hw1 ⊢
  have BX := BX1
  clear BX1 hbs
  refine (take_any g d _ w_let w2 PW.out).mono ?_; rintro e wt0 ⟨rfl, m, pt⟩
  rw [h0] at pt ⊢
  simp only [if_false, if_true, Bool.false_eq_true] at pt
  replace BX := Lib.hid (m.box BX.out (by simp; omega))
  replace RX := Lib.hid (m.box RX.out (by simp; omega))
  replace MW := Lib.hid (MW.out.then m)
  replace HL := Lib.hid (Nat.le_trans HL.out m.size)
  try replace TT := Lib.hid (TT.out.mod m (fun b hb => by simp at hb; omega))
  try replace TB := Lib.hid (TB.out.mod m (fun b hb => by simp at hb; omega))
  try replace TE := Lib.hid (TE.out.mod m (fun b hb => by simp at hb; omega))
  replace PW := Lib.hid pt
  clear m pt
  go_wp2_with fail
  refine (take_any g d _ w_del wt0 PW.out).mono ?_; rintro e wt1 ⟨rfl, m, pt⟩
  rw [h1] at pt ⊢
  simp only [if_false, if_true, Bool.false_eq_true] at pt
  replace BX := Lib.hid (m.box BX.out (by simp; omega))
  replace RX := Lib.hid (m.box RX.out (by simp; omega))
  replace MW := Lib.hid (MW.out.then m)
  replace HL := Lib.hid (Nat.le_trans HL.out m.size)
  try replace TT := Lib.hid (TT.out.mod m (fun b hb => by simp at hb; omega))
  try replace TB := Lib.hid (TB.out.mod m (fun b hb => by simp at hb; omega))
  try replace TE := Lib.hid (TE.out.mod m (fun b hb => by simp at hb; omega))
  replace PW := Lib.hid pt
  clear m pt
  go_wp2_with fail
  refine (take_any g d _ w_if wt1 PW.out).mono ?_; rintro e wt2 ⟨rfl, m, pt⟩
  rw [h2] at pt ⊢
  simp only [if_false, if_true, Bool.false_eq_true] at pt
  replace BX := Lib.hid (m.box BX.out (by simp; omega))
  replace RX := Lib.hid (m.box RX.out (by simp; omega))
  replace MW := Lib.hid (MW.out.then m)
  replace HL := Lib.hid (Nat.le_trans HL.out m.size)
  try replace TT := Lib.hid (TT.out.mod m (fun b hb => by simp at hb; omega))
  try replace TB := Lib.hid (TB.out.mod m (fun b hb => by simp at hb; omega))
  try replace TE := Lib.hid (TE.out.mod m (fun b hb => by simp at hb; omega))
  replace PW := Lib.hid pt
  clear m pt
  go_wp2_with fail
  refine (take_any g d _ w_loop wt2 PW.out).mono ?_; rintro e wt3 ⟨rfl, m, pt⟩
  rw [h3] at pt ⊢
  simp only [if_false, if_true, Bool.false_eq_true] at pt
  replace BX := Lib.hid (m.box BX.out (by simp; omega))
  replace RX := Lib.hid (m.box RX.out (by simp; omega))
  replace MW := Lib.hid (MW.out.then m)
  replace HL := Lib.hid (Nat.le_trans HL.out m.size)
  try replace TT := Lib.hid (TT.out.mod m (fun b hb => by simp at hb; omega))
  try replace TB := Lib.hid (TB.out.mod m (fun b hb => by simp at hb; omega))
  try replace TE := Lib.hid (TE.out.mod m (fun b hb => by simp at hb; omega))
  replace PW := Lib.hid pt
  clear m pt
  go_wp2_with fail
  refine (take_any g d _ w_each wt3 PW.out).mono ?_; rintro e wt4 ⟨rfl, m, pt⟩
  rw [h4] at pt ⊢
  simp only [if_false, if_true, Bool.false_eq_true] at pt
  replace BX := Lib.hid (m.box BX.out (by simp; omega))
  replace RX := Lib.hid (m.box RX.out (by simp; omega))
  replace MW := Lib.hid (MW.out.then m)
  replace HL := Lib.hid (Nat.le_trans HL.out m.size)
  try replace TT := Lib.hid (TT.out.mod m (fun b hb => by simp at hb; omega))
  try replace TB := Lib.hid (TB.out.mod m (fun b hb => by simp at hb; omega))
  try replace TE := Lib.hid (TE.out.mod m (fun b hb => by simp at hb; omega))
  replace PW := Lib.hid pt
  clear m pt
  go_wp2_with fail
  refine (take_any g d _ w_rollback wt4 PW.out).mono ?_; rintro e wt5 ⟨rfl, m, pt⟩
  rw [h5] at pt ⊢
  simp only [if_false, if_true, Bool.false_eq_true] at pt
  replace BX := Lib.hid (m.box BX.out (by simp; omega))
  replace RX := Lib.hid (m.box RX.out (by simp; omega))
  replace MW := Lib.hid (MW.out.then m)
  replace HL := Lib.hid (Nat.le_trans HL.out m.size)
  try replace TT := Lib.hid (TT.out.mod m (fun b hb => by simp at hb; omega))
  try replace TB := Lib.hid (TB.out.mod m (fun b hb => by simp at hb; omega))
  try replace TE := Lib.hid (TE.out.mod m (fun b hb => by simp at hb; omega))
  replace PW := Lib.hid pt
  clear m pt
  go_wp2_with fail
  refine (take_any g d _ w_emit wt5 PW.out).mono ?_; rintro e wt6 ⟨rfl, m, pt⟩
  rw [h6] at pt ⊢
  simp only [if_false, if_true, Bool.false_eq_true] at pt
  replace BX := Lib.hid (m.box BX.out (by simp; omega))
  replace RX := Lib.hid (m.box RX.out (by simp; omega))
  replace MW := Lib.hid (MW.out.then m)
  replace HL := Lib.hid (Nat.le_trans HL.out m.size)
  try replace TT := Lib.hid (TT.out.mod m (fun b hb => by simp at hb; omega))
  try replace TB := Lib.hid (TB.out.mod m (fun b hb => by simp at hb; omega))
  try replace TE := Lib.hid (TE.out.mod m (fun b hb => by simp at hb; omega))
  replace PW := Lib.hid pt
  clear m pt
  go_wp2_with fail
  have hnoQ : pAssign f d l ≠ .oof := by
    have := HNO.out
    rw [← HR.out] at this
    exact this
  refine (assign_t f g d bs p q z l wt6 PW.out hd hnoQ BX.out (by omega)).mono ?_; rintro e w3 hN
  have m : Mod [g, bs] wt6 w3 := hN.1
  have hl0 := HL.out
  have hbb : bs < wt6.heap.size := (Array.getElem?_eq_some_iff.1 BX.out).1
  replace RX := Lib.hid (m.box RX.out (by simp; omega))
  replace MW := Lib.hid (MW.out.trans m (fun x hx => by simp at hx; rcases hx with rfl | rfl; · exact .inl (by simp)
                                                        · exact .inr (by omega)))
  clear BX
  rcases hN.parts with ⟨hp, er, ep, eq, ez, hne, rfl⟩ | ⟨s, r1, v, hp, pN, rfl, rfl, vs, hX, hT⟩
  · have HN := Lib.hid hne
    clear hne
    have hq := HR.out
    rw [hp] at hq
    subst hq
    go_wp2_with fail
    exact ⟨rfl, MW.out, er, ep, eq, ez, HN.out, rfl⟩
  have hq := HR.out
  rw [hp] at hq
  replace HR := Lib.hid hq
  replace PW := Lib.hid pN
  obtain ⟨A, B, E, n, c, m', dd, k, ff, p1, q1, z1, rfl⟩ := hT.form
  have BX : Hid (w3.heap[bs]? = some (.cells #[nv (stK s), sv (stN s), sv (stT s), sv (stC s), nv (stI s), .slice A n c, .slice B m' dd, .slice E k ff, nv p1, nv q1, nv z1] 44 (0, 0))) := Lib.hid hX
  have TQ := Lib.hid (hT.more hl0)
  clear hN m hq hp pN hX hT hnoQ hl0
  have hq := HR.out
  subst hq
  obtain ⟨⟨⟨⟨x0, x1⟩, x2, x3⟩, ⟨x4, x5⟩, x6, x7⟩, ⟨x8, x9⟩, x10⟩ := cells11 BX.out
  obtain ⟨⟨⟨⟨y0, y1⟩, y2, y3⟩, ⟨y4, y5⟩, y6, y7⟩, ⟨y8, y9⟩, y10⟩ := cells11 RX.out
  obtain ⟨⟨⟨⟨fr0, fr1⟩, fr2, fr3⟩, ⟨fr4, fr5⟩, fr6, fr7⟩, ⟨fr8, fr9⟩, fr10⟩ := frozen11 RX.out
  have hnb : w.heap.size ≠ bs := by omega
  go_wp2_with fail
  refine bodyPost_ret (v := .agg #[nv (stK s), sv (stN s), sv (stT s), sv (stC s), nv (stI s), .slice A n c, .slice B m' dd, .slice E k ff, nv p1, nv q1, nv z1]) (by simp [results, Tryz.results141, go_sem, y0, y1, y2, y3, y4, y5, y6, y7, y8, y9, y10]) rfl ?_
  refine ⟨?_, ?_, _, rfl, [nv (stK s), sv (stN s), sv (stT s), sv (stC s), nv (stI s), .slice A n c, .slice B m' dd, .slice E k ff, nv p1, nv q1, nv z1], rfl, ?_⟩
  · repeat (first | (with_reducible exact MW.out) | refine Mod.set ?_ (.inr (Nat.le_refl _)) _)
  · repeat (first | (with_reducible exact PW.out) | refine Ps.set ?_ hlt _)
  · refine (TreeS.mod (bs := [w.heap.size]) TQ.out ?_ (fun b hb => by simp at hb; omega)).more (show w.heap.size ≤ w2.heap.size by omega)
    repeat (first | (with_reducible exact Mod.refl _ _) | refine Mod.set ?_ (.inl (by simp)) _)
end Go.Proofs.YtnbmpfdffoidaaaGreatDoor.Y
namespace Go.Proofs.YtnbmpfdffoidaaaGreatDoor.Y
open Go.RowKit O V S X
def SC (f : Nat) : Prop := ∀ (g d : Nat) (l : List Tok) (w : World), Ps w g d l → d ≤ 16 → pStmt f d l ≠ .oof → Calls Tryz.prog 141 #[.pointer (some ⟨g, 0, none⟩)] w (Out [g] g d w (pStmt f d l) fun s w' v => ∃ vs, v = .agg vs.toArray ∧ TreeS w' w.heap.size s vs)
theorem stmt_step (f : Nat) (hB : BC f) : SC (f + 1) := by
 intro g d l w h hd hno
 cases h0 : isT l w_let with
 | true => exact st_let f hB g d l w h hd hno h0
 | false =>
  cases h1 : isT l w_del with
  | true => exact st_del f hB g d l w h hd hno h0 h1
  | false =>
   cases h2 : isT l w_if with
   | true => exact st_if f hB g d l w h hd hno h0 h1 h2
   | false =>
    cases h3 : isT l w_loop with
    | true => exact st_loop f hB g d l w h hd hno h0 h1 h2 h3
    | false =>
     cases h4 : isT l w_each with
     | true => exact st_each f hB g d l w h hd hno h0 h1 h2 h3 h4
     | false =>
      cases h5 : isT l w_rollback with
      | true => exact st_roll f hB g d l w h hd hno h0 h1 h2 h3 h4 h5
      | false =>
       cases h6 : isT l w_emit with
       | true => exact st_emit f hB g d l w h hd hno h0 h1 h2 h3 h4 h5 h6
       | false => exact st_asg f hB g d l w h hd hno h0 h1 h2 h3 h4 h5 h6
theorem num_left (l : List Tok) : Left l.length (pNum l) := by
 cases l with
 | nil => trivial
 | cons t r =>
  show Left _ (if t.1 = 2 then Res.ok t.2.2.n r else .bad)
  split
  ·show r.length ≤ _; simp
  ·trivial
theorem name_left1 (l : List Tok) : Left (l.length - 1) (pName l) := by
 cases l with
 | nil => trivial
 | cons t r =>
  show Left _ (if t.1 = 1 ∧ isNameL t.2.1 = true then Res.ok t.2.1 r else .bad)
  split
  ·show r.length ≤ _; simp
  ·trivial
theorem line_left (f d : Nat) (l : List Tok) : Left l.length (pLine f d l) := Left.bind ((expr_left f).1 0 d l) fun x r h => Left.bind ((want_left r _).mono h) fun _ r2 h2 => h2
theorem key_left (f d : Nat) (l : List Tok) : Left l.length (pKey f d l) := around_left _ _ _ _ fun d r => (expr_left f).1 0 d r
theorem room_left (n m : Nat) (l : List Tok) : Left l.length (room n m l) := by
 unfold room
 split
 ·trivial
 ·exact Nat.le_refl _
theorem stmt_left : ∀ f, (∀ d l, Left (l.length - 1) (pStmt f d l)) ∧ (∀ d l, Left l.length (pBlock f d l)) ∧ (∀ d a l, Left l.length (pStmts f d a l))
 | 0 => by
  refine ⟨fun _ _ => ?_, fun _ _ => ?_, fun _ _ _ => ?_⟩
  ·rw [pStmt]; trivial
  ·rw [pBlock]; trivial
  ·rw [pStmts]; trivial
 | f + 1 => by
  obtain ⟨hs, hb, ht⟩ := stmt_left f
  have tl : ∀ l : List Tok, l.tail.length ≤ l.length - 1 := fun l => by simp
  have he := fun d r => (expr_left f).1 0 d r
  refine ⟨fun d l => ?_, fun d l => ?_, fun d a l => ?_⟩
  ·rw [pStmt]
   split
   ·exact Left.bind ((name_left l.tail).mono (tl l)) fun n r h1 => Left.bind ((want_left r _).mono h1) fun _ r h2 => Left.bind ((line_left f d r).mono h2) fun x r h3 => h3
   ·split
    ·exact Left.bind ((name_left l.tail).mono (tl l)) fun n r h1 => Left.bind ((key_left f d r).mono h1) fun x r h2 => Left.bind ((want_left r _).mono h2) fun _ r h3 => h3
    ·split
     ·refine Left.bind ((he d l.tail).mono (tl l)) fun x r h1 => Left.bind ((hb d r).mono h1) fun b r h2 => ?_
      split
      ·exact Left.bind ((hb d r.tail).mono (by have := tl r; omega)) fun e r h3 => h3
      ·exact h2
     ·split
      ·exact Left.bind ((num_left l.tail).mono (tl l)) fun n r h1 => Left.bind ((name_left r).mono h1) fun _ r h2 => Left.bind ((hb d r).mono h2) fun x r h3 => h3
      ·split
       ·exact Left.bind ((name_left l.tail).mono (tl l)) fun n r h1 => Left.bind ((want_left r _).mono h1) fun _ r h2 => Left.bind ((name_left r).mono h2) fun t r h3 => Left.bind ((want_left r _).mono h3) fun _ r h4 => Left.bind ((he d r).mono h4) fun lo r h5 => Left.bind ((want_left r _).mono h5) fun _ r h6 => Left.bind ((he d r).mono h6) fun hi r h7 => Left.bind ((want_left r _).mono h7) fun _ r h8 => Left.bind ((num_left r).mono h8) fun k r h9 => Left.bind ((hb d r).mono h9) fun b r h10 => h10
       ·split
        ·exact Left.bind ((want_left l.tail _).mono (tl l)) fun _ r h1 => h1
        ·split
         ·exact Left.bind ((line_left f d l.tail).mono (tl l)) fun x r h1 => h1
         ·refine Left.bind (name_left1 l) fun n r h => ?_
          split
          ·exact Left.bind ((key_left f d r).mono h) fun k r h2 => Left.bind ((want_left r _).mono h2) fun _ r h3 => Left.bind ((name_left r).mono h3) fun c r h4 => Left.bind ((want_left r _).mono h4) fun _ r h5 => Left.bind ((line_left f d r).mono h5) fun x r h6 => h6
          ·exact Left.bind ((want_left r _).mono h) fun _ r h5 => Left.bind ((line_left f d r).mono h5) fun x r h6 => h6
  ·rw [pBlock]
   exact around_left _ _ _ _ fun d r => ht d .nil r
  ·rw [pStmts]
   split
   ·exact Nat.le_refl _
   ·exact Left.bind (room_left _ _ l) fun _ r h1 => Left.bind ((hs d r).mono (by omega)) fun s r h2 => (ht d _ r).mono h2
end Go.Proofs.YtnbmpfdffoidaaaGreatDoor.Y
namespace Go.Proofs.YtnbmpfdffoidaaaGreatDoor.Y
open Go.RowKit O V S X
structure Bk (w W : World) (g b0 b1 k : Nat) (A : Option Addr) (c : Nat) (a : Sts) (xs : List Value) (S : Nat → Prop) : Prop where
 x : W.heap[b1]? = some (.cells #[.slice A k c] 39 (0, 0))
 p : W.heap[b0]? = some (.cells #[.pointer (some ⟨g, 0, none⟩)] 51 (0, 0))
 own : W.ownsRow w.heap.size 44 11 (.slice A k c) k xs
 reps : Reps (StR W S) a.list xs
 out : ∀ b, S b → w.heap.size ≤ b ∧ b < W.heap.size ∧ (Value.slice A k c).ownBlock ≠ some b
 mod : Mod [g, b1] w W
 len : a.len = k
theorem Bk.next {w W W' : World} {g b0 b1 k : Nat} {A : Option Addr} {c : Nat} {a : Sts} {xs : List Value} {S : Nat → Prop} (h : Bk w W g b0 b1 k A c a xs S) (m : Mod [g] W W') (hg : g < w.heap.size) (h0 : g ≠ b0) (h1 : g ≠ b1) : Bk w W' g b0 b1 k A c a xs S :=
 ⟨m.box h.x (by simp; omega), m.box h.p (by simp; omega), own_mod h.own m (fun j hj => by have := (h.own.lt j hj).1; simp; omega), h.reps.imp (fun x vs => StR.keep (fun b hb => m.block b (h.out b hb).2.1 (by have := h.out b hb; simp; omega)) x vs),
  fun b hb => ⟨(h.out b hb).1, Nat.lt_of_lt_of_le (h.out b hb).2.1 m.size, (h.out b hb).2.2⟩, h.mod.then (m.more (fun x hx => .inl (by simp at hx; simp [hx]))), h.len⟩
def Yt (w W : World) (A : Option Addr) (k c : Nat) (s : St) (vs : List Value) : Prop := ∃ S5, StR W S5 s vs ∧ ∀ b, S5 b → w.heap.size ≤ b ∧ b < W.heap.size ∧ (Value.slice A k c).ownBlock ≠ some b
theorem Yt.next {w W W' : World} {g k c : Nat} {A : Option Addr} {s : St} {vs : List Value} (h : Yt w W A k c s vs) (m : Mod [g] W W') (hg : g < w.heap.size) : Yt w W' A k c s vs := by
 obtain ⟨S5, h1, h2⟩ := h
 exact ⟨S5, StR.keep (fun b hb => m.block b (h2 b hb).2.1 (by have := h2 b hb; simp; omega)) _ _ h1, fun b hb => ⟨(h2 b hb).1, Nat.lt_of_lt_of_le (h2 b hb).2.1 m.size, (h2 b hb).2.2⟩⟩
theorem Yt.made {w W W' : World} {g k c b0 b1 : Nat} {A : Option Addr} {a : Sts} {xs : List Value} {S : Nat → Prop} {s : St} {vs : List Value} (hb : Bk w W g b0 b1 k A c a xs S) (h : TreeS W' W.heap.size s vs) : Yt w W' A k c s vs := by
 obtain ⟨S5, h1, h2⟩ := h
 have hs := hb.mod.size
 refine ⟨S5, h1, fun b hb2 => ⟨by have := h2 b hb2; omega, (h2 b hb2).2, fun e => ?_⟩⟩
 have := hb.own.lt b e
 have := h2 b hb2
 omega
theorem Bk.app {w W W7 WF : World} {g b0 b1 k c c7 g9 : Nat} {A : Option Addr} {a : Sts} {xs zs vs : List Value} {S : Nat → Prop} {s : St} (h : Bk w W g b0 b1 k A c a xs S) (hy : Yt w W A k c s vs)
  (o7 : W7.ownsRow w.heap.size 44 11 (.slice (some ⟨g9, 0, none⟩) (k + 1) c7) (k + 1) (xs ++ zs)) (g7 : W.grownBy W7 (Value.slice A k c).ownBlock) (h7 : (Value.slice (some ⟨g9, 0, none⟩) (k + 1) c7).ownBlock = (Value.slice A k c).ownBlock ∨ (Value.slice (some ⟨g9, 0, none⟩) (k + 1) c7).ownBlock = some W.heap.size)
  (hb0 : b0 < w.heap.size) (hb1 : b1 < w.heap.size) (hne : b0 ≠ b1) (mF : Mod [g9, b1] W7 WF) (hz : WF.heap.size = W7.heap.size)
  (hx : WF.heap[b1]? = some (.cells #[.slice (some ⟨g9, 0, none⟩) (k + 1) c7] 39 (0, 0))) (hF : WF.ownsRow w.heap.size 44 11 (.slice (some ⟨g9, 0, none⟩) (k + 1) c7) (k + 1) (xs ++ vs)) :
  ∃ S', Bk w WF g b0 b1 (k + 1) (some ⟨g9, 0, none⟩) c7 (a.snoc s) (xs ++ vs) S' := by
 have hs := h.mod.size
 have hg9 : w.heap.size ≤ g9 := (o7.lt g9 rfl).1
 obtain ⟨S5, y1, y2⟩ := hy
 obtain ⟨r1, e1⟩ := app_keep st_keep h.reps h.out g7 h7
 obtain ⟨r2, e2⟩ := app_keep (l := [s]) st_keep (Reps.one y1) y2 g7 h7
 have hk : ∀ (T : Nat → Prop), (∀ b, T b → w.heap.size ≤ b ∧ b < W7.heap.size ∧ (Value.slice (some ⟨g9, 0, none⟩) (k + 1) c7).ownBlock ≠ some b) → ∀ b, T b → WF.heap[b]? = W7.heap[b]? := fun T hT b hb => mF.block b (hT b hb).2.1 (by
  have := hT b hb
  simp only [List.mem_cons, List.not_mem_nil, or_false, not_or]
  exact ⟨fun e => this.2.2 (by rw [e]; rfl), by omega⟩)
 have r1' := r1.imp (fun x vs => StR.keep (hk S e1) x vs)
 have r2' := r2.imp (fun x vs => StR.keep (hk S5 e2) x vs)
 obtain ⟨us, ys, q1, q2, q3⟩ := r2'
 have q3 : ys = [] := q3
 subst q3
 rw [List.append_nil] at q1
 refine ⟨fun b => S b ∨ S5 b, hx, ?_, hF, ?_, ?_, ?_, by rw [Sts.snoc_len, h.len]⟩
 ·refine (mF.block b0 (Nat.lt_of_lt_of_le hb0 (Nat.le_trans hs g7.size)) (by simp; omega)).trans ((g7.block b0 (by omega) (fun e => ?_)).trans h.p)
  have := (h.own.lt b0 e.symm).1
  omega
 ·rw [Sts.list_snoc, q1]
  exact reps_two st_mono r1' q2
 ·rintro b (hb | hb)
  ·exact ⟨(e1 b hb).1, by rw [hz]; exact (e1 b hb).2.1, (e1 b hb).2.2⟩
  ·exact ⟨(e2 b hb).1, by rw [hz]; exact (e2 b hb).2.1, (e2 b hb).2.2⟩
 ·refine (h.mod.grown g7 (fun j hj => .inr (h.own.lt j hj).1)).trans mF (fun x hx => ?_)
  simp at hx
  rcases hx with rfl | rfl
  ·exact .inr hg9
  ·exact .inl (by simp)
end Go.Proofs.YtnbmpfdffoidaaaGreatDoor.Y
