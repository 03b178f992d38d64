/- Texts of the proof, joined: SynAsg, SynSt1. -/
import Derived.Test.YtnbmpfdffoidaaaGreatDoorBk20
set_option linter.unusedVariables false
set_option linter.unusedSimpArgs false
set_option maxHeartbeats 8000000
set_option maxRecDepth 100000
namespace Go.Proofs.YtnbmpfdffoidaaaGreatDoor.Y
open Go.RowKit O V S X
theorem assign_t (f g d bs : Nat) (p q z : Int) (l : List Tok) (w : World) (h : Ps w g d l) (hd : d ≤ 16) (hno : pAssign f d l ≠ .oof)
  (h1 : w.heap[bs]? = some (.cells #[nv 0, sv [], sv [], sv [], nv 0, .slice none 0 0, .slice none 0 0, .slice none 0 0, nv p, nv q, nv z] 44 (0, 0))) (hg : g < bs) :
  Calls Tryz.prog 169 #[.pointer (some ⟨g, 0, none⟩), .pointer (some ⟨bs, 0, none⟩)] w (Out [g, bs] g d w (pAssign f d l) fun s w' v => v = .tuple #[] ∧ GS w.heap.size bs s w') := by
 obtain ⟨RT, hRT⟩ : ∃ RT, pAssign f d l = RT := ⟨_, rfl⟩
 rw [hRT] at hno ⊢
 unfold pAssign at hRT
 have HR := Lib.hid hRT
 have HNO := Lib.hid hno
 have PW := Lib.hid h
 have BX := Lib.hid h1
 have hbl : bs < w.heap.size := (Array.getElem?_eq_some_iff.1 h1).1
 have MW : Hid (Mod [g, bs] w w) := Lib.hid (Mod.refl _ _)
 clear hRT hno h h1
 go_enter Tryz.func169, Tryz.ntmps169
 go_wp2_with fail
 refine (name_any g d l w PW.out).mono ?_; rintro e w1 hN
 have m := hN.1
 replace BX := Lib.hid (m.box BX.out (by simp; omega))
 replace MW := Lib.hid (MW.out.then (m.more (fun x hx => .inl (by simp at hx; simp [hx]))))
 try replace TT := Lib.hid (TT.out.mod m (fun b hb => by simp at hb; omega))
 try replace EE := Lib.hid (m.box EE.out (by simp; omega))
 rcases hN.parts with ⟨hp, er, ep, eq, ez, hne, rfl⟩ | ⟨nm, r1, v, hp, pN, rfl, rfl, hnm⟩
 ·have HN := Lib.hid hne
  clear hne
  have hq := HR.out
  rw [hp] at hq
  simp only [bind_bad] at hq
  subst hq
  try simp only [lastQ]
  go_wp2_with fail
  exact ⟨rfl, MW.out, er, ep, eq, ez, HN.out, rfl⟩
 have hq := HR.out
 rw [hp] at hq
 simp only [bind_ok] at hq
 replace HR := Lib.hid hq
 replace PW := Lib.hid pN
 clear hq hp pN
 clear hN hnm m
 go_wp2_with fail
 refine (is_any g d r1 [91] _ PW.out).mono ?_; rintro e w2 ⟨rfl, rfl⟩
 cases h91 : isT r1 [91] with
 | false =>
  have hq := HR.out
  rw [h91] at hq
  simp only [Bool.false_eq_true, if_false] at hq
  replace HR := Lib.hid hq
  clear hq
  obtain ⟨⟨⟨⟨y0, y1⟩, y2, y3⟩, ⟨y4, y5⟩, y6, y7⟩, ⟨y8, y9⟩, y10⟩ := cells11 BX.out
  obtain ⟨⟨⟨⟨fr0, fr1⟩, fr2, fr3⟩, ⟨fr4, fr5⟩, fr6, fr7⟩, ⟨fr8, fr9⟩, fr10⟩ := frozen11 BX.out
  go_wp2_with fail
  clear y0 y1 y2 y3 y4 y5 y6 y7 y8 y9 y10 fr0 fr1 fr2 fr3 fr4 fr5 fr6 fr7 fr8 fr9 fr10
  obtain ⟨w3, hw⟩ : ∃ W, W = (w2.setCell ⟨bs, 0, none⟩ (.int .i64 2)).setCell ⟨bs, 1, none⟩ (.string ⟨nm.toArray⟩) := ⟨_, rfl⟩
  have m : Mod [bs] w2 w3 := by rw [hw]; exact ((Mod.refl _ _).set (.inl (by simp)) _).set (.inl (by simp)) _
  replace BX : Hid (w3.heap[bs]? = some (.cells #[nv 2, sv nm, sv [], sv [], nv 0, .slice none 0 0, .slice none 0 0, .slice none 0 0, nv p, nv q, nv z] 44 (0, 0))) := Lib.hid (by rw [hw]; exact heap_set' (heap_set' BX.out _ 0 rfl) _ 1 rfl)
  replace PW := Lib.hid (PW.out.mod m (fun x hx => by simp at hx; omega))
  replace MW := Lib.hid (MW.out.then (m.more (fun x hx => .inl (by simp at hx; simp [hx]))))
  try replace TT := Lib.hid (TT.out.mod m (fun b hb => by simp at hb; omega))
  try replace EE := Lib.hid (m.box EE.out (by simp; omega))
  have hzw3 : w3.heap.size = w2.heap.size := by rw [hw]; simp
  rw [← hw]
  clear hw m
  refine (want_any g d r1 [61] _ _ (PW.out.alloc _) (by have := PW.out.lt; omega) (alloc_at (by omega))).mono ?_; rintro e w4 hN
  have m : Mod [g] w3 w4 := ((Mod.refl _ _).alloc _).then hN.1
  replace BX := Lib.hid (m.box BX.out (by simp; omega))
  replace MW := Lib.hid (MW.out.then (m.more (fun x hx => .inl (by simp at hx; simp [hx]))))
  try replace TT := Lib.hid (TT.out.mod m (fun b hb => by simp at hb; omega))
  try replace EE := Lib.hid (m.box EE.out (by simp; omega))
  rcases hN.parts with ⟨hp, er, ep, eq, ez, hne, rfl⟩ | ⟨u, r2, v, hp, pN, rfl, rfl⟩
  ·have HN := Lib.hid hne
   clear hne
   have hq := HR.out
   rw [hp] at hq
   simp only [bind_bad] at hq
   subst hq
   try simp only [lastQ]
   go_wp2_with fail
   exact ⟨rfl, MW.out, er, ep, eq, ez, HN.out, rfl⟩
  have hq := HR.out
  rw [hp] at hq
  simp only [bind_ok] at hq
  replace HR := Lib.hid hq
  replace PW := Lib.hid pN
  clear hq hp pN
  clear hN m u
  go_wp2_with fail
  have hnoE := bind_no HR.out HNO.out
  refine (line_t f g d r2 w4 PW.out hd hnoE).mono ?_; rintro e w5 hN
  have m := hN.1
  have hs4 := MW.out.size
  replace BX := Lib.hid (m.box BX.out (by simp; omega))
  replace MW := Lib.hid (MW.out.then (m.more (fun x hx => .inl (by simp at hx; simp [hx]))))
  try replace TT := Lib.hid (TT.out.mod m (fun b hb => by simp at hb; omega))
  try replace EE := Lib.hid (m.box EE.out (by simp; omega))
  rcases hN.parts with ⟨hp, er, ep, eq, ez, hne, rfl⟩ | ⟨x, r3, v, hp, pN, rfl, vs, rfl, hT⟩
  ·have HN := Lib.hid hne
   clear hne
   have hq := HR.out
   rw [hp] at hq
   simp only [bind_bad] at hq
   subst hq
   try simp only [lastQ]
   go_wp2_with fail
   exact ⟨rfl, MW.out, er, ep, eq, ez, HN.out, rfl⟩
  have hq := HR.out
  rw [hp] at hq
  simp only [bind_ok] at hq
  replace HR := Lib.hid hq
  replace PW := Lib.hid pN
  clear hq hp pN
  obtain ⟨A, n, c, p1, q1, z1, rfl⟩ := hT.form
  have TT := Lib.hid (hT.more hs4)
  rw [exV]
  have hb5 : bs < w5.heap.size := (Array.getElem?_eq_some_iff.1 BX.out).1
  clear hN m hT hnoE hs4
  obtain ⟨⟨⟨⟨y0, y1⟩, y2, y3⟩, ⟨y4, y5⟩, y6, y7⟩, ⟨y8, y9⟩, y10⟩ := cells11 BX.out
  obtain ⟨⟨⟨⟨fr0, fr1⟩, fr2, fr3⟩, ⟨fr4, fr5⟩, fr6, fr7⟩, ⟨fr8, fr9⟩, fr10⟩ := frozen11 BX.out
  go_wp2_with fail
  go_end0
  clear y0 y1 y2 y3 y4 y5 y6 y7 y8 y9 y10 fr0 fr1 fr2 fr3 fr4 fr5 fr6 fr7 fr8 fr9 fr10
  have hq := HR.out
  subst hq
  obtain ⟨w6, hw⟩ : ∃ W, W = (w5.setCell ⟨bs, 5, none⟩ (.slice (some ⟨w5.heap.size, 0, none⟩) 1 1)).alloc (.cells #[nv (hdK x), nv (hdV x).k, nv (hdV x).n, sv (hdV x).s, sv (hdN x), sv (hdC x), nv (hdO x : Nat), .slice A n c, nv p1, nv q1, nv z1] 59) := ⟨_, rfl⟩
  have m : Mod [bs] w5 w6 := by rw [hw]; exact ((Mod.refl _ _).set (.inl (by simp)) _).alloc _
  have hX : w6.heap[bs]? = some (.cells #[nv 2, sv nm, sv [], sv [], nv 0, .slice (some ⟨w5.heap.size, 0, none⟩) 1 1, .slice none 0 0, .slice none 0 0, nv p, nv q, nv z] 44 (0, 0)) := by rw [hw]; exact alloc_old' (heap_set' BX.out _ 5 rfl)
  have hr : w6.heap[w5.heap.size]? = some (.cells (exC x (.slice A n c) p1 q1 z1).toArray 59 (0, 0)) := by rw [hw]; exact alloc_at (by simp)
  rw [← hw]
  clear hw
  exact ⟨MW.out.then (m.more (fun x hx => .inl (by simp at hx; simp [hx]))), PW.out.mod m (fun x hx => by simp at hx; omega), _, rfl, rfl, _, hX, TreeS.mk (s := .set nm x) (RowX.one (TT.out.mod m (fun b hb => by simp at hb; omega)) hr MW.out.size rfl) rfl RowS.nil_ rfl RowS.nil_ rfl⟩
 | true =>
  have hq := HR.out
  rw [h91] at hq
  simp only [if_true] at hq
  replace HR := Lib.hid hq
  clear hq
  obtain ⟨⟨⟨⟨y0, y1⟩, y2, y3⟩, ⟨y4, y5⟩, y6, y7⟩, ⟨y8, y9⟩, y10⟩ := cells11 BX.out
  obtain ⟨⟨⟨⟨fr0, fr1⟩, fr2, fr3⟩, ⟨fr4, fr5⟩, fr6, fr7⟩, ⟨fr8, fr9⟩, fr10⟩ := frozen11 BX.out
  go_wp2_with fail
  clear y0 y1 y2 y3 y4 y5 y6 y7 y8 y9 y10 fr0 fr1 fr2 fr3 fr4 fr5 fr6 fr7 fr8 fr9 fr10
  obtain ⟨w3, hw⟩ : ∃ W, W = (w2.setCell ⟨bs, 0, none⟩ (.int .i64 3)).setCell ⟨bs, 2, none⟩ (.string ⟨nm.toArray⟩) := ⟨_, rfl⟩
  have m : Mod [bs] w2 w3 := by rw [hw]; exact ((Mod.refl _ _).set (.inl (by simp)) _).set (.inl (by simp)) _
  replace BX : Hid (w3.heap[bs]? = some (.cells #[nv 3, sv [], sv nm, sv [], nv 0, .slice none 0 0, .slice none 0 0, .slice none 0 0, nv p, nv q, nv z] 44 (0, 0))) := Lib.hid (by rw [hw]; exact heap_set' (heap_set' BX.out _ 0 rfl) _ 2 rfl)
  replace PW := Lib.hid (PW.out.mod m (fun x hx => by simp at hx; omega))
  replace MW := Lib.hid (MW.out.then (m.more (fun x hx => .inl (by simp at hx; simp [hx]))))
  try replace TT := Lib.hid (TT.out.mod m (fun b hb => by simp at hb; omega))
  try replace EE := Lib.hid (m.box EE.out (by simp; omega))
  have hzw3 : w3.heap.size = w2.heap.size := by rw [hw]; simp
  rw [← hw]
  clear hw m
  have hnoK := bind_no HR.out HNO.out
  refine (key_t f g d r1 w3 PW.out hd hnoK).mono ?_; rintro e w7 hN
  have m := hN.1
  have hs6 := MW.out.size
  replace BX := Lib.hid (m.box BX.out (by simp; omega))
  replace MW := Lib.hid (MW.out.then (m.more (fun x hx => .inl (by simp at hx; simp [hx]))))
  try replace TT := Lib.hid (TT.out.mod m (fun b hb => by simp at hb; omega))
  try replace EE := Lib.hid (m.box EE.out (by simp; omega))
  rcases hN.parts with ⟨hp, er, ep, eq, ez, hne, rfl⟩ | ⟨lo, r5, v, hp, pN, rfl, vs, rfl, hT⟩
  ·have HN := Lib.hid hne
   clear hne
   have hq := HR.out
   rw [hp] at hq
   simp only [bind_bad] at hq
   subst hq
   try simp only [lastQ]
   go_wp2_with fail
   exact ⟨rfl, MW.out, er, ep, eq, ez, HN.out, rfl⟩
  have hq := HR.out
  rw [hp] at hq
  simp only [bind_ok] at hq
  replace HR := Lib.hid hq
  replace PW := Lib.hid pN
  clear hq hp pN
  obtain ⟨A, n, c, p1, q1, z1, rfl⟩ := hT.form
  have TT := Lib.hid (hT.more hs6)
  rw [exV]
  have hb7 : bs < w7.heap.size := by have := MW.out.size; omega
  clear hN m hT hnoK hs6
  go_wp2_with fail
  obtain ⟨w8, hw⟩ : ∃ W, W = w7.alloc (.cells #[nv (hdK lo), nv (hdV lo).k, nv (hdV lo).n, sv (hdV lo).s, sv (hdN lo), sv (hdC lo), nv (hdO lo : Nat), .slice A n c, nv p1, nv q1, nv z1] 59) := ⟨_, rfl⟩
  have m : Mod [g] w7 w8 := by rw [hw]; exact (Mod.refl _ _).alloc _
  have E8 : Hid (w8.heap[w7.heap.size]? = some (.cells #[nv (hdK lo), nv (hdV lo).k, nv (hdV lo).n, sv (hdV lo).s, sv (hdN lo), sv (hdC lo), nv (hdO lo : Nat), .slice A n c, nv p1, nv q1, nv z1] 59 (0, 0))) := Lib.hid (by rw [hw]; exact alloc_at rfl)
  have hz8 : w8.heap.size = w7.heap.size + 1 := by rw [hw]; simp
  replace PW : Hid (Ps w8 g d r5) := Lib.hid (by rw [hw]; exact PW.out.alloc _)
  replace BX := Lib.hid (m.box BX.out (by simp; omega))
  replace MW := Lib.hid (MW.out.then (m.more (fun x hx => .inl (by simp at hx; simp [hx]))))
  try replace TT := Lib.hid (TT.out.mod m (fun b hb => by simp at hb; omega))
  try replace EE := Lib.hid (m.box EE.out (by simp; omega))
  rw [← hw]
  have EE := E8
  clear hw m E8
  refine (want_any g d r5 [46] _ _ (PW.out.alloc _) (by have := PW.out.lt; omega) (alloc_at (by omega))).mono ?_; rintro e w9 hN
  have m : Mod [g] w8 w9 := ((Mod.refl _ _).alloc _).then hN.1
  replace BX := Lib.hid (m.box BX.out (by simp; omega))
  replace MW := Lib.hid (MW.out.then (m.more (fun x hx => .inl (by simp at hx; simp [hx]))))
  try replace TT := Lib.hid (TT.out.mod m (fun b hb => by simp at hb; omega))
  try replace EE := Lib.hid (m.box EE.out (by simp; omega))
  rcases hN.parts with ⟨hp, er, ep, eq, ez, hne, rfl⟩ | ⟨u, r6, v, hp, pN, rfl, rfl⟩
  ·have HN := Lib.hid hne
   clear hne
   have hq := HR.out
   rw [hp] at hq
   simp only [bind_bad] at hq
   subst hq
   try simp only [lastQ]
   go_wp2_with fail
   exact ⟨rfl, MW.out, er, ep, eq, ez, HN.out, rfl⟩
  have hq := HR.out
  rw [hp] at hq
  simp only [bind_ok] at hq
  replace HR := Lib.hid hq
  replace PW := Lib.hid pN
  clear hq hp pN
  clear hN m u
  go_wp2_with fail
  refine (name_any g d r6 w9 PW.out).mono ?_; rintro e wA hN
  have m := hN.1
  replace BX := Lib.hid (m.box BX.out (by simp; omega))
  replace MW := Lib.hid (MW.out.then (m.more (fun x hx => .inl (by simp at hx; simp [hx]))))
  try replace TT := Lib.hid (TT.out.mod m (fun b hb => by simp at hb; omega))
  try replace EE := Lib.hid (m.box EE.out (by simp; omega))
  rcases hN.parts with ⟨hp, er, ep, eq, ez, hne, rfl⟩ | ⟨cl, rA, v, hp, pN, rfl, rfl, hnm⟩
  ·have HN := Lib.hid hne
   clear hne
   have hq := HR.out
   rw [hp] at hq
   simp only [bind_bad] at hq
   subst hq
   try simp only [lastQ]
   go_wp2_with fail
   exact ⟨rfl, MW.out, er, ep, eq, ez, HN.out, rfl⟩
  have hq := HR.out
  rw [hp] at hq
  simp only [bind_ok] at hq
  replace HR := Lib.hid hq
  replace PW := Lib.hid pN
  clear hq hp pN
  clear hN hnm m
  obtain ⟨⟨⟨⟨y0, y1⟩, y2, y3⟩, ⟨y4, y5⟩, y6, y7⟩, ⟨y8, y9⟩, y10⟩ := cells11 BX.out
  obtain ⟨⟨⟨⟨fr0, fr1⟩, fr2, fr3⟩, ⟨fr4, fr5⟩, fr6, fr7⟩, ⟨fr8, fr9⟩, fr10⟩ := frozen11 BX.out
  go_wp2_with fail
  clear y0 y1 y2 y3 y4 y5 y6 y7 y8 y9 y10 fr0 fr1 fr2 fr3 fr4 fr5 fr6 fr7 fr8 fr9 fr10
  obtain ⟨wB, hw⟩ : ∃ W, W = wA.setCell ⟨bs, 3, none⟩ (.string ⟨cl.toArray⟩) := ⟨_, rfl⟩
  have m : Mod [bs] wA wB := by rw [hw]; exact (Mod.refl _ _).set (.inl (by simp)) _
  replace BX : Hid (wB.heap[bs]? = some (.cells #[nv 3, sv [], sv nm, sv cl, nv 0, .slice none 0 0, .slice none 0 0, .slice none 0 0, nv p, nv q, nv z] 44 (0, 0))) := Lib.hid (by rw [hw]; exact heap_set' BX.out _ 3 rfl)
  replace PW := Lib.hid (PW.out.mod m (fun x hx => by simp at hx; omega))
  replace MW := Lib.hid (MW.out.then (m.more (fun x hx => .inl (by simp at hx; simp [hx]))))
  try replace TT := Lib.hid (TT.out.mod m (fun b hb => by simp at hb; omega))
  try replace EE := Lib.hid (m.box EE.out (by simp; omega))
  have hzwB : wB.heap.size = wA.heap.size := by rw [hw]; simp
  rw [← hw]
  clear hw m
  refine (want_any g d rA [61] _ _ (PW.out.alloc _) (by have := PW.out.lt; omega) (alloc_at (by omega))).mono ?_; rintro e wC hN
  have m : Mod [g] wB wC := ((Mod.refl _ _).alloc _).then hN.1
  replace BX := Lib.hid (m.box BX.out (by simp; omega))
  replace MW := Lib.hid (MW.out.then (m.more (fun x hx => .inl (by simp at hx; simp [hx]))))
  try replace TT := Lib.hid (TT.out.mod m (fun b hb => by simp at hb; omega))
  try replace EE := Lib.hid (m.box EE.out (by simp; omega))
  rcases hN.parts with ⟨hp, er, ep, eq, ez, hne, rfl⟩ | ⟨u, rC, v, hp, pN, rfl, rfl⟩
  ·have HN := Lib.hid hne
   clear hne
   have hq := HR.out
   rw [hp] at hq
   simp only [bind_bad] at hq
   subst hq
   try simp only [lastQ]
   go_wp2_with fail
   exact ⟨rfl, MW.out, er, ep, eq, ez, HN.out, rfl⟩
  have hq := HR.out
  rw [hp] at hq
  simp only [bind_ok] at hq
  replace HR := Lib.hid hq
  replace PW := Lib.hid pN
  clear hq hp pN
  clear hN m u
  go_wp2_with fail
  have hnoE := bind_no HR.out HNO.out
  refine wp_region_plan [w7.heap.size] (.read 0 (.read 1 (.read 2 (.call 3 (.call 4 (.read 5 (.read 6 (.call 7 .done)))))))) (by kernel_rfl) (by kernel_rfl) (fun _ _ d _ _ h => by cases d <;> exact h) ?_
  refine pwith (fun W hW => (cells11 ((hW w7.heap.size (by simp)).trans EE.out))) (fun k1 => ?_)
  repeat (first | (refine sreadxP rfl rfl ?_; apply Exists.intro; apply And.intro; (· (intro W hW; go_simp; try (first | with_reducible rfl | (rw [if_neg (by omega)]; try with_reducible rfl)))); simp only [Act.put, List.setIfInBounds_toArray, List.set_cons_zero, List.set_cons_succ]) | (refine pskip rfl rfl ?_; simp only [Act.put, List.setIfInBounds_toArray, List.set_cons_zero, List.set_cons_succ]))
  refine pcall rfl rfl (fun K hK => ?_)
  go_simp
  refine (line_t f g d rC wC.drew (PW.out.next (Below.refl _ _).drew) hd hnoE).mono ?_; rintro e w10 hN
  have m : Mod [g] wC w10 := (Mod.refl _ _).drew.then hN.1
  have hs9 := MW.out.size
  have hk9 : KB [w7.heap.size] wC.drew w10 := fun b hb => hN.1.block b (by simp at hb; show b < wC.heap.size; rw [hb]; exact (Array.getElem?_eq_some_iff.1 EE.out).1) (by simp at hb ⊢; omega)
  replace BX := Lib.hid (m.box BX.out (by simp; omega))
  replace MW := Lib.hid (MW.out.then (m.more (fun x hx => .inl (by simp at hx; simp [hx]))))
  try replace TT := Lib.hid (TT.out.mod m (fun b hb => by simp at hb; omega))
  try replace EE := Lib.hid (m.box EE.out (by simp; omega))
  rcases hN.parts with ⟨hp, er, ep, eq, ez, hne, rfl⟩ | ⟨hi, r7, v, hp, pN, rfl, vs, rfl, hT⟩
  ·have HN := Lib.hid hne
   clear hne
   have hq := HR.out
   rw [hp] at hq
   simp only [bind_bad] at hq
   subst hq
   try simp only [lastQ]
   go_wp2_with fail
   exact ⟨rfl, MW.out, er, ep, eq, ez, HN.out, rfl⟩
  have hq := HR.out
  rw [hp] at hq
  simp only [bind_ok] at hq
  replace HR := Lib.hid hq
  replace PW := Lib.hid pN
  clear hq hp pN
  obtain ⟨A2, n2, c2, p2, q2, z2, rfl⟩ := hT.form
  have T2 : Hid (TreeX w10 w.heap.size hi (exC hi (.slice A2 n2 c2) p2 q2 z2)) := Lib.hid (hT.more hs9)
  rw [exV]
  go_wp2_with fail
  refine hK.out _ _ hk9 ?_
  clear hK K k1 hN m hT hnoE hs9 hk9
  try simp only [Act.put, List.setIfInBounds_toArray, List.set_cons_zero, List.set_cons_succ]
  refine pcall rfl rfl (fun K hK => ?_)
  go_simp
  refine hK.out _ _ (fun b hb => Below.heap_alloc _ _ _ (by simp at hb; rw [hb]; exact (Array.getElem?_eq_some_iff.1 EE.out).1)) ?_
  clear hK K
  try simp only [Act.put, List.setIfInBounds_toArray, List.set_cons_zero, List.set_cons_succ]
  obtain ⟨w11, hw⟩ : ∃ W, W = w10.alloc (.cells #[nv (hdK lo), nv (hdV lo).k, nv (hdV lo).n, sv (hdV lo).s, sv (hdN lo), sv (hdC lo), nv (hdO lo : Nat), .slice A n c, nv p1, nv q1, nv z1, nv (hdK hi), nv (hdV hi).k, nv (hdV hi).n, sv (hdV hi).s, sv (hdN hi), sv (hdC hi), nv (hdO hi : Nat), .slice A2 n2 c2, nv p2, nv q2, nv z2] 59) := ⟨_, rfl⟩
  have m : Mod [g] w10 w11 := by rw [hw]; exact (Mod.refl _ _).alloc _
  have hr11 : w11.heap[w10.heap.size]? = some (.cells (exC lo (.slice A n c) p1 q1 z1 ++ exC hi (.slice A2 n2 c2) p2 q2 z2).toArray 59 (0, 0)) := by rw [hw]; exact alloc_at rfl
  have hz11 : w11.heap.size = w10.heap.size + 1 := by rw [hw]; simp
  replace PW : Hid (Ps w11 g d r7) := Lib.hid (by rw [hw]; exact PW.out.alloc _)
  have hs10 := MW.out.size
  replace BX := Lib.hid (m.box BX.out (by simp; omega))
  replace MW := Lib.hid (MW.out.then (m.more (fun x hx => .inl (by simp at hx; simp [hx]))))
  try replace TT := Lib.hid (TT.out.mod m (fun b hb => by simp at hb; omega))
  try replace EE := Lib.hid (m.box EE.out (by simp; omega))
  replace T2 := Lib.hid (T2.out.mod m (fun b hb => by simp at hb; omega))
  replace TT := Lib.hid (RowX.two TT.out T2.out hr11 hs10 rfl)
  rw [← hw]
  clear hw m T2 hr11 EE
  repeat (first | (refine sreadxP rfl rfl ?_; apply Exists.intro; apply And.intro; (· (intro W hW; go_simp; try (first | with_reducible rfl | (rw [if_neg (by omega)]; try with_reducible rfl)))); simp only [Act.put, List.setIfInBounds_toArray, List.set_cons_zero, List.set_cons_succ]) | (refine pskip rfl rfl ?_; simp only [Act.put, List.setIfInBounds_toArray, List.set_cons_zero, List.set_cons_succ]))
  obtain ⟨⟨⟨⟨y0, y1⟩, y2, y3⟩, ⟨y4, y5⟩, y6, y7⟩, ⟨y8, y9⟩, y10⟩ := cells11 BX.out
  obtain ⟨⟨⟨⟨fr0, fr1⟩, fr2, fr3⟩, ⟨fr4, fr5⟩, fr6, fr7⟩, ⟨fr8, fr9⟩, fr10⟩ := frozen11 BX.out
  refine pcall rfl rfl (fun K hK => ?_)
  go_simp
  refine hK.out _ _ (fun b hb => Below.heap_setCell _ _ _ _ (by simp at hb ⊢; omega)) ?_
  clear hK K
  try simp only [Act.put, List.setIfInBounds_toArray, List.set_cons_zero, List.set_cons_succ]
  refine pdone ?_
  clear y0 y1 y2 y3 y4 y5 y6 y7 y8 y9 y10 fr0 fr1 fr2 fr3 fr4 fr5 fr6 fr7 fr8 fr9 fr10
  go_wp2_with fail
  go_end0
  have hq := HR.out
  subst hq
  have m : Mod [bs] w11 (w11.setCell ⟨bs, 5, none⟩ (.slice (some ⟨w10.heap.size, 0, none⟩) 2 2)) := (Mod.refl _ _).set (.inl (by simp)) _
  have hX := heap_set' BX.out (.slice (some ⟨w10.heap.size, 0, none⟩) 2 2) 5 (cs' := #[nv 3, sv [], sv nm, sv cl, nv 0, .slice (some ⟨w10.heap.size, 0, none⟩) 2 2, .slice none 0 0, .slice none 0 0, nv p, nv q, nv z]) rfl
  exact ⟨MW.out.then (m.more (fun x hx => .inl (by simp at hx; simp [hx]))), PW.out.mod m (fun x hx => by simp at hx; omega), _, rfl, rfl, _, hX, TreeS.mk (s := .put nm cl lo hi) (TT.out.mod m (fun b hb => by simp at hb; omega)) rfl RowS.nil_ rfl RowS.nil_ rfl⟩
end Go.Proofs.YtnbmpfdffoidaaaGreatDoor.Y
namespace Go.Proofs.YtnbmpfdffoidaaaGreatDoor.Y
open Go.RowKit O V S X
theorem pStmt_eq (f d : Nat) (l : List Tok) : pStmt (f + 1) d l =
  if isT l w_let then (pName l.tail).bind fun n r => (want r [61]).bind fun _ r => (pLine f d r).bind fun x r => .ok (.let_ n x) r
  else if isT l w_del then (pName l.tail).bind fun n r => (pKey f d r).bind fun x r => (want r [59]).bind fun _ r => .ok (.del n x) r
  else if isT l w_if then (pExpr f 0 d l.tail).bind fun x r => (pBlock f d r).bind fun b r => if isT r w_else then (pBlock f d r.tail).bind fun e r => .ok (.if_ x b e) r else .ok (.if_ x b .nil) r
  else if isT l w_loop then (pNum l.tail).bind fun k r => (pName r).bind fun n r => (pBlock f d r).bind fun b r => .ok (.loop k n b) r
  else if isT l w_each then pEach f d l.tail
  else if isT l w_rollback then (want l.tail [59]).bind fun _ r => .ok .roll r
  else if isT l w_emit then (pLine f d l.tail).bind fun x r => .ok (.emit x) r
  else pAssign f d l := by rw [pStmt]; rfl
theorem st_let (f : Nat) (hB : BC f) (g d : Nat) (l : List Tok) (w : World) (h : Ps w g d l) (hd : d ≤ 16) (hno : pStmt (f + 1) d l ≠ .oof) (h0 : isT l w_let = true) :
  Calls Tryz.prog 141 #[.pointer (some ⟨g, 0, none⟩)] w (Out [g] g d w (pStmt (f + 1) d l) fun s w' v => ∃ vs, v = .agg vs.toArray ∧ TreeS w' w.heap.size s vs) := by
 obtain ⟨RT, hRT⟩ : ∃ RT, pStmt (f + 1) d l = RT := ⟨_, rfl⟩
 rw [hRT] at hno ⊢
 rw [pStmt_eq, h0] at hRT
 simp only [Bool.false_eq_true, if_false, if_true] at hRT
 have HR := Lib.hid hRT
 have HNO := Lib.hid hno
 have HS := Lib.hid h
 have hlt := h.lt
 have HB := Lib.hid hB
 clear hRT hno h hB
 go_enter Tryz.func141, Tryz.ntmps141
 go_wp2_with fail
 refine (here_any g d l _ (HS.out.alloc _)).mono ?_; rintro e w1 ⟨⟨p, q, z, rfl⟩, b1⟩
 have RX1 : Hid (w1.heap[w.heap.size]? = some (.cells #[nv 0, sv [], sv [], sv [], nv 0, .slice none 0 0, .slice none 0 0, .slice none 0 0, nv 0, nv 0, nv 0] 44 (0, 0))) := Lib.hid (box_next (alloc_at rfl) b1)
 have MW1 : Hid (Mod [g] w w1) := Lib.hid (((Mod.refl _ _).alloc _).then (.of_below b1))
 have PW1 := Lib.hid ((HS.out.alloc (.cells #[nv 0, sv [], sv [], sv [], nv 0, .slice none 0 0, .slice none 0 0, .slice none 0 0, nv 0, nv 0, nv 0] 44)).next b1)
 clear b1
 go_wp2_with fail
 have hw1 : w.heap.size < w1.heap.size := (Array.getElem?_eq_some_iff.1 RX1.out).1
 obtain ⟨w2, hw⟩ : ∃ W, W = w1.alloc (.cells #[nv 0, sv [], sv [], sv [], nv 0, .slice none 0 0, .slice none 0 0, .slice none 0 0, nv p, nv q, nv z] 44) := ⟨_, rfl⟩
 have RX : Hid (w2.heap[w.heap.size]? = some (.cells #[nv 0, sv [], sv [], sv [], nv 0, .slice none 0 0, .slice none 0 0, .slice none 0 0, nv 0, nv 0, nv 0] 44 (0, 0))) := Lib.hid (by rw [hw]; exact alloc_old' RX1.out)
 have BX1 : Hid (w2.heap[w1.heap.size]? = some (.cells #[nv 0, sv [], sv [], sv [], nv 0, .slice none 0 0, .slice none 0 0, .slice none 0 0, nv p, nv q, nv z] 44 (0, 0))) := Lib.hid (by rw [hw]; exact alloc_at rfl)
 have MW : Hid (Mod [g] w w2) := Lib.hid (by rw [hw]; exact MW1.out.alloc _)
 have PW : Hid (Ps w2 g d l) := Lib.hid (by rw [hw]; exact PW1.out.alloc _)
 have hz2 : w2.heap.size = w1.heap.size + 1 := by rw [hw]; simp
 have HL : Hid (w2.heap.size ≤ w2.heap.size) := Lib.hid (Nat.le_refl _)
 rw [← hw]
 clear hw RX1 MW1 PW1 HS
 obtain ⟨bs, hbs⟩ : ∃ bs, w1.heap.size = bs := ⟨_, rfl⟩
 rw [hbs] at BX1 hz2 hw1 ⊢
 have BX := BX1
 clear BX1 hbs
 refine (take_any g d _ w_let w2 PW.out).mono ?_; rintro e wt0 ⟨rfl, m, pt⟩
 rw [h0] at pt ⊢
 simp only [if_false, if_true, Bool.false_eq_true] at pt
 replace BX := Lib.hid (m.box BX.out (by simp; omega))
 replace RX := Lib.hid (m.box RX.out (by simp; omega))
 replace MW := Lib.hid (MW.out.then m)
 replace HL := Lib.hid (Nat.le_trans HL.out m.size)
 try replace TT := Lib.hid (TT.out.mod m (fun b hb => by simp at hb; omega))
 try replace TB := Lib.hid (TB.out.mod m (fun b hb => by simp at hb; omega))
 replace PW := Lib.hid pt
 clear m pt
 go_wp2_with fail
 refine (name_any g d l.tail wt0 PW.out).mono ?_; rintro e w3 hN
 have m := hN.1
 replace BX := Lib.hid (m.box BX.out (by simp; omega))
 replace RX := Lib.hid (m.box RX.out (by simp; omega))
 replace MW := Lib.hid (MW.out.then m)
 replace HL := Lib.hid (Nat.le_trans HL.out m.size)
 try replace TT := Lib.hid (TT.out.mod m (fun b hb => by simp at hb; omega))
 try replace TB := Lib.hid (TB.out.mod m (fun b hb => by simp at hb; omega))
 rcases hN.parts with ⟨hp, er, ep, eq, ez, hne, rfl⟩ | ⟨nm, r1, v, hp, pN, rfl, rfl, hnm⟩
 ·have HN := Lib.hid hne
  clear hne
  have hq := HR.out
  rw [hp] at hq
  simp only [bind_bad] at hq
  subst hq
  try simp only [lastQ]
  go_wp2_with fail
  exact ⟨rfl, MW.out, er, ep, eq, ez, HN.out, rfl⟩
 have hq := HR.out
 rw [hp] at hq
 simp only [bind_ok] at hq
 replace HR := Lib.hid hq
 replace PW := Lib.hid pN
 clear hq hp pN
 clear hN hnm m
 obtain ⟨⟨⟨⟨y0, y1⟩, y2, y3⟩, ⟨y4, y5⟩, y6, y7⟩, ⟨y8, y9⟩, y10⟩ := cells11 BX.out
 obtain ⟨⟨⟨⟨fr0, fr1⟩, fr2, fr3⟩, ⟨fr4, fr5⟩, fr6, fr7⟩, ⟨fr8, fr9⟩, fr10⟩ := frozen11 BX.out
 go_wp2_with fail
 clear y0 y1 y2 y3 y4 y5 y6 y7 y8 y9 y10 fr0 fr1 fr2 fr3 fr4 fr5 fr6 fr7 fr8 fr9 fr10
 obtain ⟨w4, hw⟩ : ∃ W, W = (w3.setCell ⟨bs, 0, none⟩ (.int .i64 1)).setCell ⟨bs, 1, none⟩ (.string ⟨nm.toArray⟩) := ⟨_, rfl⟩
 have m : Mod [bs] w3 w4 := by rw [hw]; exact ((Mod.refl _ _).set (.inl (by simp)) _).set (.inl (by simp)) _
 replace BX : Hid (w4.heap[bs]? = some (.cells #[nv 1, sv nm, sv [], sv [], nv 0, .slice none 0 0, .slice none 0 0, .slice none 0 0, nv p, nv q, nv z] 44 (0, 0))) := Lib.hid (by rw [hw]; exact heap_set' (heap_set' BX.out _ 0 rfl) _ 1 rfl)
 replace RX := Lib.hid (m.box RX.out (by simp; omega))
 replace PW := Lib.hid (PW.out.mod m (fun x hx => by simp at hx; omega))
 replace MW := Lib.hid (MW.out.trans m (fun x hx => .inr (by simp at hx; omega)))
 replace HL := Lib.hid (Nat.le_trans HL.out m.size)
 try replace TT := Lib.hid (TT.out.mod m (fun b hb => by simp at hb; omega))
 try replace TB := Lib.hid (TB.out.mod m (fun b hb => by simp at hb; omega))
 have hzw4 : w4.heap.size = w3.heap.size := by rw [hw]; simp
 rw [← hw]
 clear hw m
 refine (want_any g d r1 [61] _ _ (PW.out.alloc _) (by have := PW.out.lt; omega) (alloc_at (by omega))).mono ?_; rintro e w5 hN
 have m : Mod [g] w4 w5 := ((Mod.refl _ _).alloc _).then hN.1
 replace BX := Lib.hid (m.box BX.out (by simp; omega))
 replace RX := Lib.hid (m.box RX.out (by simp; omega))
 replace MW := Lib.hid (MW.out.then m)
 replace HL := Lib.hid (Nat.le_trans HL.out m.size)
 try replace TT := Lib.hid (TT.out.mod m (fun b hb => by simp at hb; omega))
 try replace TB := Lib.hid (TB.out.mod m (fun b hb => by simp at hb; omega))
 rcases hN.parts with ⟨hp, er, ep, eq, ez, hne, rfl⟩ | ⟨u, r2, v, hp, pN, rfl, rfl⟩
 ·have HN := Lib.hid hne
  clear hne
  have hq := HR.out
  rw [hp] at hq
  simp only [bind_bad] at hq
  subst hq
  try simp only [lastQ]
  go_wp2_with fail
  exact ⟨rfl, MW.out, er, ep, eq, ez, HN.out, rfl⟩
 have hq := HR.out
 rw [hp] at hq
 simp only [bind_ok] at hq
 replace HR := Lib.hid hq
 replace PW := Lib.hid pN
 clear hq hp pN
 clear hN m u
 go_wp2_with fail
 have hnoE := bind_no HR.out HNO.out
 refine (line_t f g d r2 w5 PW.out hd hnoE).mono ?_; rintro e w6 hN
 have m := hN.1
 have hl0 := HL.out
 replace BX := Lib.hid (m.box BX.out (by simp; omega))
 replace RX := Lib.hid (m.box RX.out (by simp; omega))
 replace MW := Lib.hid (MW.out.then m)
 replace HL := Lib.hid (Nat.le_trans HL.out m.size)
 try replace TT := Lib.hid (TT.out.mod m (fun b hb => by simp at hb; omega))
 try replace TB := Lib.hid (TB.out.mod m (fun b hb => by simp at hb; omega))
 rcases hN.parts with ⟨hp, er, ep, eq, ez, hne, rfl⟩ | ⟨x, r3, v, hp, pN, rfl, vs, rfl, hT⟩
 ·have HN := Lib.hid hne
  clear hne
  have hq := HR.out
  rw [hp] at hq
  simp only [bind_bad] at hq
  subst hq
  try simp only [lastQ]
  go_wp2_with fail
  exact ⟨rfl, MW.out, er, ep, eq, ez, HN.out, rfl⟩
 have hq := HR.out
 rw [hp] at hq
 simp only [bind_ok] at hq
 replace HR := Lib.hid hq
 replace PW := Lib.hid pN
 clear hq hp pN
 obtain ⟨A, n, c, p1, q1, z1, rfl⟩ := hT.form
 have TT := Lib.hid (hT.more hl0)
 rw [exV]
 have hbb : bs < w6.heap.size := (Array.getElem?_eq_some_iff.1 BX.out).1
 have hrr : w.heap.size < w6.heap.size := (Array.getElem?_eq_some_iff.1 RX.out).1
 clear hN m hT hnoE hl0
 obtain ⟨⟨⟨⟨y0, y1⟩, y2, y3⟩, ⟨y4, y5⟩, y6, y7⟩, ⟨y8, y9⟩, y10⟩ := cells11 BX.out
 obtain ⟨⟨⟨⟨fr0, fr1⟩, fr2, fr3⟩, ⟨fr4, fr5⟩, fr6, fr7⟩, ⟨fr8, fr9⟩, fr10⟩ := frozen11 BX.out
 go_upto_region 27 with fail
 clear y0 y1 y2 y3 y4 y5 y6 y7 y8 y9 y10 fr0 fr1 fr2 fr3 fr4 fr5 fr6 fr7 fr8 fr9 fr10
 obtain ⟨w7, hw⟩ : ∃ W, W = (w6.setCell ⟨bs, 5, none⟩ (.slice (some ⟨w6.heap.size, 0, none⟩) 1 1)).alloc (.cells #[nv (hdK x), nv (hdV x).k, nv (hdV x).n, sv (hdV x).s, sv (hdN x), sv (hdC x), nv (hdO x : Nat), .slice A n c, nv p1, nv q1, nv z1] 59) := ⟨_, rfl⟩
 have m : Mod [bs] w6 w7 := by rw [hw]; exact ((Mod.refl _ _).set (.inl (by simp)) _).alloc _
 replace BX : Hid (w7.heap[bs]? = some (.cells #[nv 1, sv nm, sv [], sv [], nv 0, .slice (some ⟨w6.heap.size, 0, none⟩) 1 1, .slice none 0 0, .slice none 0 0, nv p, nv q, nv z] 44 (0, 0))) := Lib.hid (by rw [hw]; exact alloc_old' (heap_set' BX.out _ 5 rfl))
 have hr : w7.heap[w6.heap.size]? = some (.cells (exC x (.slice A n c) p1 q1 z1).toArray 59 (0, 0)) := by rw [hw]; exact alloc_at (by simp)
 have hl0 := HL.out
 replace RX := Lib.hid (m.box RX.out (by simp; omega))
 replace PW := Lib.hid (PW.out.mod m (fun x hx => by simp at hx; omega))
 replace MW := Lib.hid (MW.out.trans m (fun x hx => .inr (by simp at hx; omega)))
 replace HL := Lib.hid (Nat.le_trans HL.out m.size)
 replace TT := Lib.hid (RowX.one (TT.out.mod m (fun b hb => by simp at hb; omega)) hr hl0 rfl)
 have hzw7 : w7.heap.size = w6.heap.size + 1 := by rw [hw]; simp
 rw [← hw]
 clear hw m hr hl0
 have hq := HR.out
 subst hq
 obtain ⟨⟨⟨⟨x0, x1⟩, x2, x3⟩, ⟨x4, x5⟩, x6, x7⟩, ⟨x8, x9⟩, x10⟩ := cells11 BX.out
 obtain ⟨⟨⟨⟨y0, y1⟩, y2, y3⟩, ⟨y4, y5⟩, y6, y7⟩, ⟨y8, y9⟩, y10⟩ := cells11 RX.out
 obtain ⟨⟨⟨⟨fr0, fr1⟩, fr2, fr3⟩, ⟨fr4, fr5⟩, fr6, fr7⟩, ⟨fr8, fr9⟩, fr10⟩ := frozen11 RX.out
 have hnb : w.heap.size ≠ bs := by omega
 go_wp2_with fail
 refine bodyPost_ret (v := .agg #[nv 1, sv nm, sv [], sv [], nv 0, .slice (some ⟨w6.heap.size, 0, none⟩) 1 1, .slice none 0 0, .slice none 0 0, nv p, nv q, nv z]) (by simp [results, Tryz.results141, go_sem, y0, y1, y2, y3, y4, y5, y6, y7, y8, y9, y10]) rfl ?_
 refine ⟨?_, ?_, _, rfl, [nv 1, sv nm, sv [], sv [], nv 0, .slice (some ⟨w6.heap.size, 0, none⟩) 1 1, .slice none 0 0, .slice none 0 0, nv p, nv q, nv z], rfl, ?_⟩
 ·repeat (first | (with_reducible exact MW.out) | refine Mod.set ?_ (.inr (Nat.le_refl _)) _)
 ·repeat (first | (with_reducible exact PW.out) | refine Ps.set ?_ hlt _)
 ·refine (TreeS.mod (bs := [w.heap.size]) (TreeS.mk (s := .let_ nm x) TT.out rfl RowS.nil_ rfl RowS.nil_ rfl) ?_ (fun b hb => by simp at hb; omega)).more (show w.heap.size ≤ w2.heap.size by omega)
  repeat (first | (with_reducible exact Mod.refl _ _) | refine Mod.set ?_ (.inl (by simp)) _)
end Go.Proofs.YtnbmpfdffoidaaaGreatDoor.Y
