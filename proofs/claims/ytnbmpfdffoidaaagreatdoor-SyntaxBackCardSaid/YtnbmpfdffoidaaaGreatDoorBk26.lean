/- Texts of the proof, joined: SynPrc, SynTk. -/
import Derived.Test.YtnbmpfdffoidaaaGreatDoorBk25
set_option linter.unusedVariables false
set_option linter.unusedSimpArgs false
set_option maxHeartbeats 8000000
set_option maxRecDepth 100000
namespace Go.Proofs.YtnbmpfdffoidaaaGreatDoor.Y
open Go.RowKit O V S X
theorem prc_made {w W : World} {b0 b1 lo lo1 lo2 k c m d : Nat} {A B : Option Addr} {a : List Cl} {xs : List Value} {b : Sts} (hM : Mod [b1, b0] w W) (ck : Ck w lo1 A k c a xs) (rs : RowS w lo2 B m d b) (h0 : b0 < lo1 ∧ b1 < lo1) (h1 : b0 < lo2 ∧ b1 < lo2) (h2 : lo ≤ lo1 ∧ lo ≤ lo2) (n : List UInt8) (p q r : Int) :
  ∃ vs S, Value.agg #[sv n, .slice A k c, .slice B m d, nv p, nv q, nv r] = .agg vs.toArray ∧ PcR W S ⟨n, a, b⟩ vs ∧ In lo W S := by
 have ck' := ck.mod hM (fun x hx => by simp at hx; omega)
 have rs' := rs.mod hM (fun x hx => by simp at hx; omega)
 obtain rfl := ck'.len
 obtain rfl := rs'.one.1
 obtain ⟨ys, S, r1, r2, r3⟩ := rs'
 refine ⟨[sv n, .slice A a.length c, .slice B b.len d, nv p, nv q, nv r], fun x => S x ∨ (Value.slice A a.length c).ownBlock = some x, rfl, ⟨A, c, xs, B, d, ys, p, q, r, rfl, ⟨Row.of_own ck'.own (fun g hg => .inr hg), ck'.reps⟩, r1.mono (fun x hx => .inl hx), StsR.mono (fun x hx => .inl hx) _ _ r2⟩, fun x hx => ?_⟩
 rcases hx with hx | hx
 ·exact ⟨Nat.le_trans h2.2 (r3 x hx).1, (r3 x hx).2⟩
 ·exact ⟨Nat.le_trans h2.1 (ck'.own.lt x hx).1, (ck'.own.lt x hx).2⟩
theorem proc_any (f g : Nat) (l : List Tok) (w : World) (h : Ps w g 0 l) (hno : pProc f l ≠ .oof) : Calls Tryz.prog 48 #[.pointer (some ⟨g, 0, none⟩)] w (Out [g] g 0 w (pProc f l) fun t w' v => ∃ vs S, v = .agg vs.toArray ∧ PcR w' S t vs ∧ In w.heap.size w' S) := by
 obtain ⟨RT, hRT⟩ : ∃ RT, pProc f l = RT := ⟨_, rfl⟩
 rw [hRT] at hno ⊢
 unfold pProc w_proc at hRT
 have HR := Lib.hid hRT
 have HNO := Lib.hid hno
 have hlt := h.lt
 have PW : Hid (Ps (w.alloc (.cells #[sv [], .slice none 0 0, .slice none 0 0, nv 0, nv 0, nv 0] 41)) g 0 l) := Lib.hid (h.alloc _)
 clear hRT hno h
 go_enter Tryz.func48, Tryz.ntmps48
 go_wp2_with fail
 refine (here_any g 0 l _ PW.out).mono ?_; rintro e w1 ⟨⟨ap, aq, ar, rfl⟩, hb1⟩
 have MW : Hid (Mod [g] w w1) := Lib.hid (((Mod.refl _ _).alloc _).then (.of_below hb1))
 have RB : Hid (w1.heap[w.heap.size]? = some (.cells #[sv [], .slice none 0 0, .slice none 0 0, nv 0, nv 0, nv 0] 41 (0, 0))) := Lib.hid ((Mod.of_below (bs := [g]) hb1).box (alloc_at rfl) (by simp; omega))
 replace PW := Lib.hid (PW.out.next hb1)
 have hw01 : w.heap.size < w1.heap.size := (Array.getElem?_eq_some_iff.1 RB.out).1
 clear hb1
 go_wp2_with fail
 obtain ⟨w2, hw⟩ : ∃ W, w1.alloc (.cells #[sv [], .slice none 0 0, .slice none 0 0, nv ap, nv aq, nv ar] 41) = W := ⟨_, rfl⟩
 have hz2 : w2.heap.size = w1.heap.size + 1 := by rw [← hw]; simp
 have BX : Hid (w2.heap[w1.heap.size]? = some (.cells #[sv [], .slice none 0 0, .slice none 0 0, nv ap, nv aq, nv ar] 41 (0, 0))) := Lib.hid (by rw [← hw]; exact alloc_at rfl)
 have m : Mod [g] w1 w2 := by rw [← hw]; exact (Mod.refl _ _).alloc _
 replace PW : Hid (Ps w2 g 0 l) := Lib.hid (by rw [← hw]; exact PW.out.alloc _)
 replace MW := Lib.hid (MW.out.then m)
 replace RB := Lib.hid (m.box RB.out (by simp; omega))
 first | rw [hw] | (unfold nv sv at hw; rw [hw])
 clear hw m
 refine (want_any g 0 l [112, 114, 111, 99] _ _ (PW.out.alloc _) (by have := PW.out.lt; omega) (alloc_at (by omega))).mono ?_; rintro e w3 hN
 have m : Mod [g] w2 w3 := ((Mod.refl _ _).alloc _).then hN.1
 replace MW := Lib.hid (MW.out.then m)
 replace BX := Lib.hid (m.box BX.out (by simp; omega))
 replace RB := Lib.hid (m.box RB.out (by simp; omega))
 try replace CK := Lib.hid (CK.out.mod m (fun b hb => by simp at hb; omega))
 rcases hN.parts with ⟨hp, er, ep, eq, ez, hne, rfl⟩ | ⟨u, r1, v, hp, pN, rfl, rfl⟩
 ·have HN := Lib.hid hne
  clear hne
  have hq := HR.out
  rw [hp] at hq
  simp only [bind_bad] at hq
  subst hq
  go_wp2_with fail
  exact ⟨rfl, MW.out, er, ep, eq, ez, HN.out, rfl⟩
 have hq := HR.out
 rw [hp] at hq
 simp only [bind_ok] at hq
 replace HR := Lib.hid hq
 replace PW := Lib.hid pN
 clear hq hp pN
 clear hN m hz2
 go_wp2_with fail
 refine (name_any g 0 r1 w3 PW.out).mono ?_; rintro e w4 hN
 have m := hN.1
 replace MW := Lib.hid (MW.out.then m)
 replace BX := Lib.hid (m.box BX.out (by simp; omega))
 replace RB := Lib.hid (m.box RB.out (by simp; omega))
 try replace CK := Lib.hid (CK.out.mod m (fun b hb => by simp at hb; omega))
 rcases hN.parts with ⟨hp, er, ep, eq, ez, hne, rfl⟩ | ⟨n, r2, v, hp, pN, rfl, rfl, hnm⟩
 ·have HN := Lib.hid hne
  clear hne
  have hq := HR.out
  rw [hp] at hq
  simp only [bind_bad] at hq
  subst hq
  go_wp2_with fail
  exact ⟨rfl, MW.out, er, ep, eq, ez, HN.out, rfl⟩
 have hq := HR.out
 rw [hp] at hq
 simp only [bind_ok] at hq
 replace HR := Lib.hid hq
 replace PW := Lib.hid pN
 clear hq hp pN
 clear hN m hnm
 have x0 : w4.cell? ⟨w1.heap.size, 0, none⟩ = some (sv []) := by rw [Lib.cell_of_heap BX.out]; rfl
 have x1 : w4.cell? ⟨w1.heap.size, 1, none⟩ = some (.slice none 0 0) := by rw [Lib.cell_of_heap BX.out]; rfl
 have x2 : w4.cell? ⟨w1.heap.size, 2, none⟩ = some (.slice none 0 0) := by rw [Lib.cell_of_heap BX.out]; rfl
 have x3 : w4.cell? ⟨w1.heap.size, 3, none⟩ = some (nv ap) := by rw [Lib.cell_of_heap BX.out]; rfl
 have x4 : w4.cell? ⟨w1.heap.size, 4, none⟩ = some (nv aq) := by rw [Lib.cell_of_heap BX.out]; rfl
 have x5 : w4.cell? ⟨w1.heap.size, 5, none⟩ = some (nv ar) := by rw [Lib.cell_of_heap BX.out]; rfl
 have fr0 : w4.frozen? ⟨w1.heap.size, 0, none⟩ = false := Lib.frozen_of_heap BX.out 0
 have fr1 : w4.frozen? ⟨w1.heap.size, 1, none⟩ = false := Lib.frozen_of_heap BX.out 1
 have fr2 : w4.frozen? ⟨w1.heap.size, 2, none⟩ = false := Lib.frozen_of_heap BX.out 2
 go_wp2_with fail
 clear x0 x1 x2 x3 x4 x5 fr0 fr1 fr2
 obtain ⟨w5, hw⟩ : ∃ W, w4.setCell ⟨w1.heap.size, 0, none⟩ (sv n) = W := ⟨_, rfl⟩
 have hzw5 : w5.heap.size = w4.heap.size := by rw [← hw]; simp
 try replace CK := Lib.hid (CK.out.mod (show Mod [w1.heap.size] w4 w5 by rw [← hw]; exact (Mod.refl _ _).set (.inl (by simp)) _) (fun b hb => by simp at hb; omega))
 replace BX : Hid (w5.heap[w1.heap.size]? = some (.cells #[sv n, .slice none 0 0, .slice none 0 0, nv ap, nv aq, nv ar] 41 (0, 0))) := Lib.hid (by rw [← hw]; exact heap_set' BX.out _ 0 rfl)
 replace RB : Hid (w5.heap[w.heap.size]? = some (.cells #[sv [], .slice none 0 0, .slice none 0 0, nv 0, nv 0, nv 0] 41 (0, 0))) := Lib.hid ((show Mod [w1.heap.size] w4 w5 by rw [← hw]; exact (Mod.refl _ _).set (.inl (by simp)) _).box RB.out (by simp; omega))
 replace MW : Hid (Mod [g] w w5) := Lib.hid (by rw [← hw]; exact MW.out.set (.inr (by omega)) _)
 replace PW : Hid (Ps w5 g 0 r2) := Lib.hid (by rw [← hw]; exact PW.out.set (by omega) _)
 try (first | rw [hw] | (unfold nv sv at hw; rw [hw]))
 clear hw
 go_wp2_with fail
 refine (want_any g 0 r2 [40] _ _ (PW.out.alloc _) (by have := PW.out.lt; omega) (alloc_at (by omega))).mono ?_; rintro e w6 hN
 have m : Mod [g] w5 w6 := ((Mod.refl _ _).alloc _).then hN.1
 replace MW := Lib.hid (MW.out.then m)
 replace BX := Lib.hid (m.box BX.out (by simp; omega))
 replace RB := Lib.hid (m.box RB.out (by simp; omega))
 try replace CK := Lib.hid (CK.out.mod m (fun b hb => by simp at hb; omega))
 rcases hN.parts with ⟨hp, er, ep, eq, ez, hne, rfl⟩ | ⟨u, r6, v, hp, pN, rfl, rfl⟩
 ·have HN := Lib.hid hne
  clear hne
  have hq := HR.out
  rw [hp] at hq
  simp only [bind_bad] at hq
  subst hq
  go_wp2_with fail
  exact ⟨rfl, MW.out, er, ep, eq, ez, HN.out, rfl⟩
 have hq := HR.out
 rw [hp] at hq
 simp only [bind_ok] at hq
 replace HR := Lib.hid hq
 replace PW := Lib.hid pN
 clear hq hp pN
 clear hN m
 have CK := Lib.hid (Ck.nil_ w6 (w1.heap.size + 1))
 go_wp2_with fail
 refine (is_any g 0 r6 [41] _ PW.out).mono ?_; rintro e w6b ⟨rfl, rfl⟩
 cases hi : isT r6 [41] with
 | true =>
  have hq := HR.out
  rw [hi] at hq
  simp only [if_true, bind_ok] at hq
  replace HR := Lib.hid hq
  clear hq hi
  obtain ⟨A, k, c, a, xs, ha, BXn, CKn⟩ : ∃ A k c a xs, a = ([] : List Cl) ∧ Hid (w6b.heap[w1.heap.size]? = some (.cells #[sv n, .slice A k c, .slice none 0 0, nv ap, nv aq, nv ar] 41 (0, 0))) ∧ Hid (Ck w6b (w1.heap.size + 1) A k c a xs) := ⟨none, 0, 0, [], [], rfl, BX, CK⟩
  replace BX := BXn
  replace CK := CKn
  clear BXn CKn
  rw [← ha] at HR
  go_wp2_with fail
  go_wp2_with fail
  refine (want_any g 0 r6 [41] _ _ (PW.out.alloc _) (by have := PW.out.lt; omega) (alloc_at (by omega))).mono ?_; rintro e we hN
  have m : Mod [g] w6b we := ((Mod.refl _ _).alloc _).then hN.1
  replace MW := Lib.hid (MW.out.then m)
  replace BX := Lib.hid (m.box BX.out (by simp; omega))
  replace RB := Lib.hid (m.box RB.out (by simp; omega))
  try replace CK := Lib.hid (CK.out.mod m (fun b hb => by simp at hb; omega))
  rcases hN.parts with ⟨hp, er, ep, eq, ez, hne, rfl⟩ | ⟨u, re, v, hp, pN, rfl, rfl⟩
  ·have HN := Lib.hid hne
   clear hne
   have hq := HR.out
   rw [hp] at hq
   simp only [bind_bad] at hq
   subst hq
   go_wp2_with fail
   exact ⟨rfl, MW.out, er, ep, eq, ez, HN.out, rfl⟩
  have hq := HR.out
  rw [hp] at hq
  simp only [bind_ok] at hq
  replace HR := Lib.hid hq
  replace PW := Lib.hid pN
  clear hq hp pN
  clear hN m
  go_wp2_with fail
  have hq := HR.out
  have hnb := bind_no hq HNO.out
  refine (block_c f g 0 re we PW.out (by omega) hnb).mono ?_; rintro e wf hN
  have m := hN.1
  have hwe := Lib.hid ((Array.getElem?_eq_some_iff.1 BX.out).1)
  replace MW := Lib.hid (MW.out.then m)
  replace BX := Lib.hid (m.box BX.out (by simp; omega))
  replace RB := Lib.hid (m.box RB.out (by simp; omega))
  try replace CK := Lib.hid (CK.out.mod m (fun b hb => by simp at hb; omega))
  clear hq hnb
  rcases hN.parts with ⟨hp, er, ep, eq, ez, hne, rfl⟩ | ⟨b, rf, v, hp, pN, rfl, B, mm, dd, rfl, hRS⟩
  ·have HN := Lib.hid hne
   clear hne
   have hq := HR.out
   rw [hp] at hq
   simp only [bind_bad] at hq
   subst hq
   go_wp2_with fail
   exact ⟨rfl, MW.out, er, ep, eq, ez, HN.out, rfl⟩
  have hq := HR.out
  rw [hp] at hq
  simp only [bind_ok] at hq
  replace HR := Lib.hid hq
  replace PW := Lib.hid pN
  clear hq hp pN
  have RS := Lib.hid hRS
  have hq := HR.out
  subst hq
  clear hN m hRS
  have x0 : wf.cell? ⟨w1.heap.size, 0, none⟩ = some (sv n) := by rw [Lib.cell_of_heap BX.out]; rfl
  have x1 : wf.cell? ⟨w1.heap.size, 1, none⟩ = some (.slice A k c) := by rw [Lib.cell_of_heap BX.out]; rfl
  have x2 : wf.cell? ⟨w1.heap.size, 2, none⟩ = some (.slice none 0 0) := by rw [Lib.cell_of_heap BX.out]; rfl
  have x3 : wf.cell? ⟨w1.heap.size, 3, none⟩ = some (nv ap) := by rw [Lib.cell_of_heap BX.out]; rfl
  have x4 : wf.cell? ⟨w1.heap.size, 4, none⟩ = some (nv aq) := by rw [Lib.cell_of_heap BX.out]; rfl
  have x5 : wf.cell? ⟨w1.heap.size, 5, none⟩ = some (nv ar) := by rw [Lib.cell_of_heap BX.out]; rfl
  have fr0 : wf.frozen? ⟨w1.heap.size, 0, none⟩ = false := Lib.frozen_of_heap BX.out 0
  have fr1 : wf.frozen? ⟨w1.heap.size, 1, none⟩ = false := Lib.frozen_of_heap BX.out 1
  have fr2 : wf.frozen? ⟨w1.heap.size, 2, none⟩ = false := Lib.frozen_of_heap BX.out 2
  have z0 : wf.cell? ⟨w.heap.size, 0, none⟩ = some (sv []) := by rw [Lib.cell_of_heap RB.out]; rfl
  have z1 : wf.cell? ⟨w.heap.size, 1, none⟩ = some (.slice none 0 0) := by rw [Lib.cell_of_heap RB.out]; rfl
  have z2 : wf.cell? ⟨w.heap.size, 2, none⟩ = some (.slice none 0 0) := by rw [Lib.cell_of_heap RB.out]; rfl
  have z3 : wf.cell? ⟨w.heap.size, 3, none⟩ = some (nv 0) := by rw [Lib.cell_of_heap RB.out]; rfl
  have z4 : wf.cell? ⟨w.heap.size, 4, none⟩ = some (nv 0) := by rw [Lib.cell_of_heap RB.out]; rfl
  have z5 : wf.cell? ⟨w.heap.size, 5, none⟩ = some (nv 0) := by rw [Lib.cell_of_heap RB.out]; rfl
  have zf0 : wf.frozen? ⟨w.heap.size, 0, none⟩ = false := Lib.frozen_of_heap RB.out 0
  have zf1 : wf.frozen? ⟨w.heap.size, 1, none⟩ = false := Lib.frozen_of_heap RB.out 1
  have zf2 : wf.frozen? ⟨w.heap.size, 2, none⟩ = false := Lib.frozen_of_heap RB.out 2
  have zf3 : wf.frozen? ⟨w.heap.size, 3, none⟩ = false := Lib.frozen_of_heap RB.out 3
  have zf4 : wf.frozen? ⟨w.heap.size, 4, none⟩ = false := Lib.frozen_of_heap RB.out 4
  have zf5 : wf.frozen? ⟨w.heap.size, 5, none⟩ = false := Lib.frozen_of_heap RB.out 5
  have hne9 : w.heap.size ≠ w1.heap.size := by omega
  go_wp2_with fail
  refine bodyPost_ret (v := .agg #[sv n, .slice A k c, .slice B mm dd, nv ap, nv aq, nv ar]) (by simp [results, Tryz.results48, go_sem, z0, z1, z2, z3, z4, z5]) rfl ?_
  have hwe2 := hwe.out
  refine ⟨?_, ?_, _, rfl, prc_made (b0 := w.heap.size) (b1 := w1.heap.size) ?_ CK.out RS.out ⟨by omega, by omega⟩ ⟨by omega, by omega⟩ ⟨by omega, by omega⟩ n ap aq ar⟩
  ·repeat (first | (with_reducible exact MW.out) | refine Mod.set ?_ (.inr (by omega)) _)
  ·repeat (first | (with_reducible exact PW.out) | refine Ps.set ?_ (by omega) _)
  ·repeat (first | (with_reducible exact Mod.refl _ _) | refine Mod.set ?_ (.inl (by simp)) _)
 | false =>
  have hq := HR.out
  rw [hi] at hq
  simp only [Bool.false_eq_true, if_false, bind_assoc] at hq
  replace HR := Lib.hid hq
  clear hq hi
  go_wp2_with fail
  obtain ⟨A, k, c, a, xs, ha, hk0, BXn, CKn⟩ : ∃ A k c a xs, Hid (a = ([] : List Cl)) ∧ Hid (k = 0) ∧ Hid (w6b.heap[w1.heap.size]? = some (.cells #[sv n, .slice A k c, .slice none 0 0, nv ap, nv aq, nv ar] 41 (0, 0))) ∧ Hid (Ck w6b (w1.heap.size + 1) A k c a xs) := ⟨none, 0, 0, [], [], Lib.hid rfl, Lib.hid rfl, BX, CK⟩
  replace BX := BXn
  replace CK := CKn
  clear BXn CKn
  have hk : isN r6 = true → k < 6 := fun _ => by have := hk0.out; omega
  refine wp_region_last (l := [_, _, _, _, _, _, _]) [w1.heap.size] (.read 0 (.read 1 (.read 2 (.call 3 (.call 4 (.call 5 (.read 6 .done))))))) (by kernel_rfl) (by kernel_rfl) (by kernel_rfl) (fun _ _ d _ _ h => by cases d <;> exact h) ?_
  refine pwith (fun W hW => (show W.cell? ⟨w1.heap.size, 1, none⟩ = some (.slice A k c) from by rw [Lib.cell_of_heap ((hW w1.heap.size (by simp)).trans BX.out)]; rfl)) (fun k7 => ?_)
  repeat (first | (refine sreadxP rfl rfl ?_; apply Exists.intro; apply And.intro; (· (intro W hW; go_simp; try (first | with_reducible rfl | (rw [if_neg (by omega)]; try with_reducible rfl)))); simp only [Act.put, List.setIfInBounds_toArray, List.set_cons_zero, List.set_cons_succ]) | (refine pskip rfl rfl ?_; simp only [Act.put, List.setIfInBounds_toArray, List.set_cons_zero, List.set_cons_succ]))
  refine pcall rfl rfl (fun K hK => ?_)
  go_simp
  refine (col_any g 0 r6 _ (PW.out.next (Below.refl _ _).drew)).mono ?_; rintro e wa hN
  have m : Mod [g] w6b wa := (Mod.refl _ _).drew.then hN.1
  have hbx : w1.heap.size < w6b.heap.size := (Array.getElem?_eq_some_iff.1 BX.out).1
  have hkb : wa.heap[w1.heap.size]? = w6b.heap[w1.heap.size]? := m.block w1.heap.size hbx (by simp; omega)
  replace MW := Lib.hid (MW.out.then m)
  replace BX := Lib.hid (m.box BX.out (by simp; omega))
  replace RB := Lib.hid (m.box RB.out (by simp; omega))
  try replace CK := Lib.hid (CK.out.mod m (fun b hb => by simp at hb; omega))
  rcases hN.parts with ⟨hp, er, ep, eq, ez, hne, rfl⟩ | ⟨y, rr, v, hp, pN, rfl, rfl⟩
  ·have HN := Lib.hid hne
   clear hne
   have hq := HR.out
   rw [hp] at hq
   simp only [bind_bad] at hq
   subst hq
   go_wp2_with fail
   exact ⟨rfl, MW.out, er, ep, eq, ez, HN.out, rfl⟩
  have hk8' : k < 6 := hk (col_isN hp)
  have hl0 : 0 < r6.length := by
   have hii := col_isN hp
   cases hc : r6 with
   | nil => rw [hc] at hii; cases hii
   | cons t0 l0 => simp
  have hcl := col_left r6
  rw [hp] at hcl
  have HCL : Hid (rr.length < r6.length) := Lib.hid (Nat.lt_of_le_of_lt (show rr.length ≤ r6.length - 1 from hcl) (by omega))
  have hq := HR.out
  rw [hp] at hq
  simp only [bind_ok] at hq
  replace HR := Lib.hid hq
  replace PW := Lib.hid pN
  clear hq hp pN
  clear hN m hcl hl0
  go_wp2_with fail
  refine hK.out _ _ (fun b hb => by simp at hb; rw [hb]; exact hkb) ?_
  clear hK K hkb hk k7
  try simp only [Act.put, List.setIfInBounds_toArray, List.set_cons_zero, List.set_cons_succ]
  refine pcall rfl rfl (fun K hK => ?_)
  go_simp
  have hba : w1.heap.size < wa.heap.size := (Array.getElem?_eq_some_iff.1 BX.out).1
  refine hK.out _ _ (fun b hb => Below.heap_alloc _ _ _ (by simp at hb; omega)) ?_
  clear hK K
  try simp only [Act.put, List.setIfInBounds_toArray, List.set_cons_zero, List.set_cons_succ]
  obtain ⟨wb, hw⟩ : ∃ W, W = wa.alloc (.cells #[sv y.name, nv y.k, nv y.m] 72) := ⟨_, rfl⟩
  have m : Mod [g] wa wb := by rw [hw]; exact (Mod.refl _ _).alloc _
  have RD : Hid (Rd wb (wa.heap.size + 1) 3 (some ⟨wa.heap.size, 0, none⟩) 1 [sv y.name, nv y.k, nv y.m]) := Lib.hid (by rw [hw]; exact Rd.made _ _ rfl rfl)
  have hzb : wb.heap.size = wa.heap.size + 1 := by rw [hw]; simp
  replace PW : Hid (Ps wb g 0 rr) := Lib.hid (by rw [hw]; exact PW.out.alloc _)
  replace MW := Lib.hid (MW.out.then m)
  replace BX := Lib.hid (m.box BX.out (by simp; omega))
  replace RB := Lib.hid (m.box RB.out (by simp; omega))
  try replace CK := Lib.hid (CK.out.mod m (fun b hb => by simp at hb; omega))
  first | rw [← hw] | (unfold nv sv at hw; rw [← hw])
  clear hw m
  refine pcall rfl rfl (fun K hK => ?_)
  refine wapp4 (.tmp 20) (.tmp 23) clE rfl (w1.heap.size + 1) xs rfl CK.out.own rfl [sv y.name, nv y.k, nv y.m] RD.out (by simp [Value.oneCell']) (by unfold maxLen; omega) (by omega) (by omega) rfl ?_
  intro A7 c7 w7 o7 g7 h7
  have hne7 : ∀ b, b ≤ w1.heap.size → some b ≠ (Value.slice A k c).ownBlock := fun b hb e => by have := (CK.out.own.lt _ e.symm).1; omega
  refine hK.out _ _ (fun b hb => by simp at hb; rw [hb]; exact g7.block w1.heap.size (by omega) (hne7 _ (by omega))) ?_
  clear hK K
  try simp only [Act.put, List.setIfInBounds_toArray, List.set_cons_zero, List.set_cons_succ]
  replace BX := Lib.hid ((g7.block w1.heap.size (by omega) (hne7 _ (by omega))).trans BX.out)
  replace RB := Lib.hid ((g7.block w.heap.size (by omega) (hne7 _ (by omega))).trans RB.out)
  replace PW : Hid (Ps w7 g 0 rr) := Lib.hid (PW.out.keep (fun b hb => g7.block b (by omega) (hne7 b (by omega))))
  replace MW : Hid (Mod [g] w w7) := Lib.hid (MW.out.grown g7 (fun j hj => .inr (by have := (CK.out.own.lt j hj).1; omega)))
  replace CK : Hid (Ck w7 (w1.heap.size + 1) A7 (k + 1) c7 (a ++ [y]) (xs ++ [sv y.name, nv y.k, nv y.m])) := Lib.hid ⟨o7, reps_snoc CK.out.reps rfl, by simp [CK.out.len]⟩
  clear o7 g7 h7 hne7 RD hzb
  repeat (first | (refine sreadxP rfl rfl ?_; apply Exists.intro; apply And.intro; (· (intro W hW; go_simp; try (first | with_reducible rfl | (rw [if_neg (by omega)]; try with_reducible rfl)))); simp only [Act.put, List.setIfInBounds_toArray, List.set_cons_zero, List.set_cons_succ]) | (refine pskip rfl rfl ?_; simp only [Act.put, List.setIfInBounds_toArray, List.set_cons_zero, List.set_cons_succ]))
  refine pdone ?_
  refine last_step rfl (fun K hK => ?_)
  have x0 : w7.cell? ⟨w1.heap.size, 0, none⟩ = some (sv n) := by rw [Lib.cell_of_heap BX.out]; rfl
  have x1 : w7.cell? ⟨w1.heap.size, 1, none⟩ = some (.slice A k c) := by rw [Lib.cell_of_heap BX.out]; rfl
  have x2 : w7.cell? ⟨w1.heap.size, 2, none⟩ = some (.slice none 0 0) := by rw [Lib.cell_of_heap BX.out]; rfl
  have x3 : w7.cell? ⟨w1.heap.size, 3, none⟩ = some (nv ap) := by rw [Lib.cell_of_heap BX.out]; rfl
  have x4 : w7.cell? ⟨w1.heap.size, 4, none⟩ = some (nv aq) := by rw [Lib.cell_of_heap BX.out]; rfl
  have x5 : w7.cell? ⟨w1.heap.size, 5, none⟩ = some (nv ar) := by rw [Lib.cell_of_heap BX.out]; rfl
  have fr0 : w7.frozen? ⟨w1.heap.size, 0, none⟩ = false := Lib.frozen_of_heap BX.out 0
  have fr1 : w7.frozen? ⟨w1.heap.size, 1, none⟩ = false := Lib.frozen_of_heap BX.out 1
  have fr2 : w7.frozen? ⟨w1.heap.size, 2, none⟩ = false := Lib.frozen_of_heap BX.out 2
  go_simp
  refine hK.out _ _ ?_
  clear hK K
  clear x0 x1 x2 x3 x4 x5 fr0 fr1 fr2
  obtain ⟨wc, hw⟩ : ∃ W, w7.setCell ⟨w1.heap.size, 1, none⟩ (.slice A7 (k + 1) c7) = W := ⟨_, rfl⟩
  have hzwc : wc.heap.size = w7.heap.size := by rw [← hw]; simp
  try replace CK := Lib.hid (CK.out.mod (show Mod [w1.heap.size] w7 wc by rw [← hw]; exact (Mod.refl _ _).set (.inl (by simp)) _) (fun b hb => by simp at hb; omega))
  replace BX : Hid (wc.heap[w1.heap.size]? = some (.cells #[sv n, .slice A7 (k + 1) c7, .slice none 0 0, nv ap, nv aq, nv ar] 41 (0, 0))) := Lib.hid (by rw [← hw]; exact heap_set' BX.out _ 1 rfl)
  replace RB : Hid (wc.heap[w.heap.size]? = some (.cells #[sv [], .slice none 0 0, .slice none 0 0, nv 0, nv 0, nv 0] 41 (0, 0))) := Lib.hid ((show Mod [w1.heap.size] w7 wc by rw [← hw]; exact (Mod.refl _ _).set (.inl (by simp)) _).box RB.out (by simp; omega))
  replace MW : Hid (Mod [g] w wc) := Lib.hid (by rw [← hw]; exact MW.out.set (.inr (by omega)) _)
  replace PW : Hid (Ps wc g 0 rr) := Lib.hid (by rw [← hw]; exact PW.out.set (by omega) _)
  try (first | rw [hw] | (unfold nv sv at hw; rw [hw]))
  clear hw
  have HR1 : Hid ((pParams f (a ++ [y]) rr).bind (fun ps r => (want r [41]).bind fun _ r => (pBlock f 0 r).bind fun b r => Res.ok ⟨n, ps, b⟩ r) = RT) := Lib.hid (by rw [ha.out]; exact HR.out)
  have hk1 : k + 1 ≤ 6 := by have := hk0.out; omega
  go_wp2_with fail
  clear HR hk0 ha HCL
  go_loopw [] (fun wr => ∃ (f' : Nat) (a : List Cl) (l' : List Tok) (k : Nat) (A : Option Addr) (c : Nat) (xs : List Value), f' ≤ f ∧ k ≤ 6 ∧ Hid ((pParams f' a l').bind (fun ps r => (want r [41]).bind fun _ r => (pBlock f 0 r).bind fun b r => Res.ok ⟨n, ps, b⟩ r) = RT) ∧ Hid (wr.heap[w1.heap.size]? = some (.cells #[sv n, .slice A k c, .slice none 0 0, nv ap, nv aq, nv ar] 41 (0, 0))) ∧ Hid (wr.heap[w.heap.size]? = some (.cells #[sv [], .slice none 0 0, .slice none 0 0, nv 0, nv 0, nv 0] 41 (0, 0))) ∧ Hid (Ck wr (w1.heap.size + 1) A k c a xs) ∧ Hid (Ps wr g 0 l') ∧ Hid (Mod [g] w wr)) (fun wr => lenW wr g)
  case atStart => exact ⟨f, a ++ [y], rr, k + 1, A7, c7, _, Nat.le_refl _, hk1, HR1, BX, RB, CK, PW, MW⟩
  case round =>
   clear HR1 BX RB CK PW MW hk1
   obtain ⟨f', a, l', k, A, c, xs, hf', hk6, HR, BX, RB, CK, PW, MW⟩ := hrel
   cases f' with
   | zero => exact absurd (HR.out.symm.trans (by rw [pParams]; rfl)) HNO.out
   | succ f2 =>
    have hR1 := HR.out
    rw [pParams] at hR1
    have HLN := Lib.hid (PW.out.lenW)
    clear HR
    go_wp2_with fail
    refine (take_any g 0 l' [44] _ PW.out).mono ?_; rintro e w8 ⟨rfl, m, p1⟩
    replace MW := Lib.hid (MW.out.then m)
    replace BX := Lib.hid (m.box BX.out (by simp; omega))
    replace RB := Lib.hid (m.box RB.out (by simp; omega))
    try replace CK := Lib.hid (CK.out.mod m (fun b hb => by simp at hb; omega))
    clear m PW
    cases hi : isT l' [44] with
    | false =>
     rw [hi] at p1 hR1
     simp only [Bool.false_eq_true, if_false, bind_ok] at p1 hR1
     have HR := Lib.hid hR1
     have PW := Lib.hid p1
     clear p1 hR1 hi
     go_wp2_with fail
     go_wp2_with fail
     refine (want_any g 0 l' [41] _ _ (PW.out.alloc _) (by have := PW.out.lt; omega) (alloc_at (by omega))).mono ?_; rintro e we hN
     have m : Mod [g] w8 we := ((Mod.refl _ _).alloc _).then hN.1
     replace MW := Lib.hid (MW.out.then m)
     replace BX := Lib.hid (m.box BX.out (by simp; omega))
     replace RB := Lib.hid (m.box RB.out (by simp; omega))
     try replace CK := Lib.hid (CK.out.mod m (fun b hb => by simp at hb; omega))
     rcases hN.parts with ⟨hp, er, ep, eq, ez, hne, rfl⟩ | ⟨u, re, v, hp, pN, rfl, rfl⟩
     ·have HN := Lib.hid hne
      clear hne
      have hq := HR.out
      rw [hp] at hq
      simp only [bind_bad] at hq
      subst hq
      go_wp2_with fail
      exact ⟨rfl, MW.out, er, ep, eq, ez, HN.out, rfl⟩
     have hq := HR.out
     rw [hp] at hq
     simp only [bind_ok] at hq
     replace HR := Lib.hid hq
     replace PW := Lib.hid pN
     clear hq hp pN
     clear hN m
     go_wp2_with fail
     have hq := HR.out
     have hnb := bind_no hq HNO.out
     refine (block_c f g 0 re we PW.out (by omega) hnb).mono ?_; rintro e wf hN
     have m := hN.1
     have hwe := Lib.hid ((Array.getElem?_eq_some_iff.1 BX.out).1)
     replace MW := Lib.hid (MW.out.then m)
     replace BX := Lib.hid (m.box BX.out (by simp; omega))
     replace RB := Lib.hid (m.box RB.out (by simp; omega))
     try replace CK := Lib.hid (CK.out.mod m (fun b hb => by simp at hb; omega))
     clear hq hnb
     rcases hN.parts with ⟨hp, er, ep, eq, ez, hne, rfl⟩ | ⟨b, rf, v, hp, pN, rfl, B, mm, dd, rfl, hRS⟩
     ·have HN := Lib.hid hne
      clear hne
      have hq := HR.out
      rw [hp] at hq
      simp only [bind_bad] at hq
      subst hq
      go_wp2_with fail
      exact ⟨rfl, MW.out, er, ep, eq, ez, HN.out, rfl⟩
     have hq := HR.out
     rw [hp] at hq
     simp only [bind_ok] at hq
     replace HR := Lib.hid hq
     replace PW := Lib.hid pN
     clear hq hp pN
     have RS := Lib.hid hRS
     have hq := HR.out
     subst hq
     clear hN m hRS
     have x0 : wf.cell? ⟨w1.heap.size, 0, none⟩ = some (sv n) := by rw [Lib.cell_of_heap BX.out]; rfl
     have x1 : wf.cell? ⟨w1.heap.size, 1, none⟩ = some (.slice A k c) := by rw [Lib.cell_of_heap BX.out]; rfl
     have x2 : wf.cell? ⟨w1.heap.size, 2, none⟩ = some (.slice none 0 0) := by rw [Lib.cell_of_heap BX.out]; rfl
     have x3 : wf.cell? ⟨w1.heap.size, 3, none⟩ = some (nv ap) := by rw [Lib.cell_of_heap BX.out]; rfl
     have x4 : wf.cell? ⟨w1.heap.size, 4, none⟩ = some (nv aq) := by rw [Lib.cell_of_heap BX.out]; rfl
     have x5 : wf.cell? ⟨w1.heap.size, 5, none⟩ = some (nv ar) := by rw [Lib.cell_of_heap BX.out]; rfl
     have fr0 : wf.frozen? ⟨w1.heap.size, 0, none⟩ = false := Lib.frozen_of_heap BX.out 0
     have fr1 : wf.frozen? ⟨w1.heap.size, 1, none⟩ = false := Lib.frozen_of_heap BX.out 1
     have fr2 : wf.frozen? ⟨w1.heap.size, 2, none⟩ = false := Lib.frozen_of_heap BX.out 2
     have z0 : wf.cell? ⟨w.heap.size, 0, none⟩ = some (sv []) := by rw [Lib.cell_of_heap RB.out]; rfl
     have z1 : wf.cell? ⟨w.heap.size, 1, none⟩ = some (.slice none 0 0) := by rw [Lib.cell_of_heap RB.out]; rfl
     have z2 : wf.cell? ⟨w.heap.size, 2, none⟩ = some (.slice none 0 0) := by rw [Lib.cell_of_heap RB.out]; rfl
     have z3 : wf.cell? ⟨w.heap.size, 3, none⟩ = some (nv 0) := by rw [Lib.cell_of_heap RB.out]; rfl
     have z4 : wf.cell? ⟨w.heap.size, 4, none⟩ = some (nv 0) := by rw [Lib.cell_of_heap RB.out]; rfl
     have z5 : wf.cell? ⟨w.heap.size, 5, none⟩ = some (nv 0) := by rw [Lib.cell_of_heap RB.out]; rfl
     have zf0 : wf.frozen? ⟨w.heap.size, 0, none⟩ = false := Lib.frozen_of_heap RB.out 0
     have zf1 : wf.frozen? ⟨w.heap.size, 1, none⟩ = false := Lib.frozen_of_heap RB.out 1
     have zf2 : wf.frozen? ⟨w.heap.size, 2, none⟩ = false := Lib.frozen_of_heap RB.out 2
     have zf3 : wf.frozen? ⟨w.heap.size, 3, none⟩ = false := Lib.frozen_of_heap RB.out 3
     have zf4 : wf.frozen? ⟨w.heap.size, 4, none⟩ = false := Lib.frozen_of_heap RB.out 4
     have zf5 : wf.frozen? ⟨w.heap.size, 5, none⟩ = false := Lib.frozen_of_heap RB.out 5
     have hne9 : w.heap.size ≠ w1.heap.size := by omega
     go_wp2_with fail
     refine bodyPost_ret (v := .agg #[sv n, .slice A k c, .slice B mm dd, nv ap, nv aq, nv ar]) (by simp [results, Tryz.results48, go_sem, z0, z1, z2, z3, z4, z5]) rfl ?_
     have hwe2 := hwe.out
     refine ⟨?_, ?_, _, rfl, prc_made (b0 := w.heap.size) (b1 := w1.heap.size) ?_ CK.out RS.out ⟨by omega, by omega⟩ ⟨by omega, by omega⟩ ⟨by omega, by omega⟩ n ap aq ar⟩
     ·repeat (first | (with_reducible exact MW.out) | refine Mod.set ?_ (.inr (by omega)) _)
     ·repeat (first | (with_reducible exact PW.out) | refine Ps.set ?_ (by omega) _)
     ·repeat (first | (with_reducible exact Mod.refl _ _) | refine Mod.set ?_ (.inl (by simp)) _)
    | true =>
     rw [hi] at p1 hR1
     simp only [if_true, bind_assoc] at p1 hR1
     obtain ⟨lt, hlt'⟩ : ∃ lt, l'.tail = lt := ⟨_, rfl⟩
     have HLT : Hid (lt.length ≤ l'.length) := Lib.hid (by rw [← hlt']; simp)
     rw [hlt'] at p1 hR1
     have HR := Lib.hid hR1
     have PW := Lib.hid p1
     clear p1 hR1 hi hlt'
     go_wp2_with fail
     refine (isName_p g 0 lt _ PW.out).mono ?_; rintro e w9 ⟨rfl, rfl⟩
     cases hn : isN lt with
     | false =>
      have hq := HR.out
      rw [hn] at hq
      simp only [Bool.false_eq_true, if_false, bind_ok] at hq
      replace HR := Lib.hid hq
      have hk : isN lt = true → k < 6 := fun e => by rw [hn] at e; cases e
      clear hq hn
      go_wp2_with fail
      refine wp_region_last (l := [_, _, _, _, _, _, _]) [w1.heap.size] (.read 0 (.read 1 (.read 2 (.call 3 (.call 4 (.call 5 (.read 6 .done))))))) (by kernel_rfl) (by kernel_rfl) (by kernel_rfl) (fun _ _ d _ _ h => by cases d <;> exact h) ?_
      refine pwith (fun W hW => (show W.cell? ⟨w1.heap.size, 1, none⟩ = some (.slice A k c) from by rw [Lib.cell_of_heap ((hW w1.heap.size (by simp)).trans BX.out)]; rfl)) (fun k7 => ?_)
      repeat (first | (refine sreadxP rfl rfl ?_; apply Exists.intro; apply And.intro; (· (intro W hW; go_simp; try (first | with_reducible rfl | (rw [if_neg (by omega)]; try with_reducible rfl)))); simp only [Act.put, List.setIfInBounds_toArray, List.set_cons_zero, List.set_cons_succ]) | (refine pskip rfl rfl ?_; simp only [Act.put, List.setIfInBounds_toArray, List.set_cons_zero, List.set_cons_succ]))
      refine pcall rfl rfl (fun K hK => ?_)
      go_simp
      refine (col_any g 0 lt _ (PW.out.next (Below.refl _ _).drew)).mono ?_; rintro e wa hN
      have m : Mod [g] w9 wa := (Mod.refl _ _).drew.then hN.1
      have hbx : w1.heap.size < w9.heap.size := (Array.getElem?_eq_some_iff.1 BX.out).1
      have hkb : wa.heap[w1.heap.size]? = w9.heap[w1.heap.size]? := m.block w1.heap.size hbx (by simp; omega)
      replace MW := Lib.hid (MW.out.then m)
      replace BX := Lib.hid (m.box BX.out (by simp; omega))
      replace RB := Lib.hid (m.box RB.out (by simp; omega))
      try replace CK := Lib.hid (CK.out.mod m (fun b hb => by simp at hb; omega))
      rcases hN.parts with ⟨hp, er, ep, eq, ez, hne, rfl⟩ | ⟨y, rr, v, hp, pN, rfl, rfl⟩
      ·have HN := Lib.hid hne
       clear hne
       have hq := HR.out
       rw [hp] at hq
       simp only [bind_bad] at hq
       subst hq
       go_wp2_with fail
       exact ⟨rfl, MW.out, er, ep, eq, ez, HN.out, rfl⟩
      have hk8' : k < 6 := hk (col_isN hp)
      have hl0 : 0 < lt.length := by
       have hii := col_isN hp
       cases hc : lt with
       | nil => rw [hc] at hii; cases hii
       | cons t0 l0 => simp
      have hcl := col_left lt
      rw [hp] at hcl
      have HCL : Hid (rr.length < lt.length) := Lib.hid (Nat.lt_of_le_of_lt (show rr.length ≤ lt.length - 1 from hcl) (by omega))
      have hq := HR.out
      rw [hp] at hq
      simp only [bind_ok] at hq
      replace HR := Lib.hid hq
      replace PW := Lib.hid pN
      clear hq hp pN
      clear hN m hcl hl0
      go_wp2_with fail
      refine hK.out _ _ (fun b hb => by simp at hb; rw [hb]; exact hkb) ?_
      clear hK K hkb hk k7
      try simp only [Act.put, List.setIfInBounds_toArray, List.set_cons_zero, List.set_cons_succ]
      refine pcall rfl rfl (fun K hK => ?_)
      go_simp
      have hba : w1.heap.size < wa.heap.size := (Array.getElem?_eq_some_iff.1 BX.out).1
      refine hK.out _ _ (fun b hb => Below.heap_alloc _ _ _ (by simp at hb; omega)) ?_
      clear hK K
      try simp only [Act.put, List.setIfInBounds_toArray, List.set_cons_zero, List.set_cons_succ]
      obtain ⟨wb, hw⟩ : ∃ W, W = wa.alloc (.cells #[sv y.name, nv y.k, nv y.m] 72) := ⟨_, rfl⟩
      have m : Mod [g] wa wb := by rw [hw]; exact (Mod.refl _ _).alloc _
      have RD : Hid (Rd wb (wa.heap.size + 1) 3 (some ⟨wa.heap.size, 0, none⟩) 1 [sv y.name, nv y.k, nv y.m]) := Lib.hid (by rw [hw]; exact Rd.made _ _ rfl rfl)
      have hzb : wb.heap.size = wa.heap.size + 1 := by rw [hw]; simp
      replace PW : Hid (Ps wb g 0 rr) := Lib.hid (by rw [hw]; exact PW.out.alloc _)
      replace MW := Lib.hid (MW.out.then m)
      replace BX := Lib.hid (m.box BX.out (by simp; omega))
      replace RB := Lib.hid (m.box RB.out (by simp; omega))
      try replace CK := Lib.hid (CK.out.mod m (fun b hb => by simp at hb; omega))
      first | rw [← hw] | (unfold nv sv at hw; rw [← hw])
      clear hw m
      refine pcall rfl rfl (fun K hK => ?_)
      refine wapp4 (.tmp 36) (.tmp 39) clE rfl (w1.heap.size + 1) xs rfl CK.out.own rfl [sv y.name, nv y.k, nv y.m] RD.out (by simp [Value.oneCell']) (by unfold maxLen; omega) (by omega) (by omega) rfl ?_
      intro A7 c7 w7 o7 g7 h7
      have hne7 : ∀ b, b ≤ w1.heap.size → some b ≠ (Value.slice A k c).ownBlock := fun b hb e => by have := (CK.out.own.lt _ e.symm).1; omega
      refine hK.out _ _ (fun b hb => by simp at hb; rw [hb]; exact g7.block w1.heap.size (by omega) (hne7 _ (by omega))) ?_
      clear hK K
      try simp only [Act.put, List.setIfInBounds_toArray, List.set_cons_zero, List.set_cons_succ]
      replace BX := Lib.hid ((g7.block w1.heap.size (by omega) (hne7 _ (by omega))).trans BX.out)
      replace RB := Lib.hid ((g7.block w.heap.size (by omega) (hne7 _ (by omega))).trans RB.out)
      replace PW : Hid (Ps w7 g 0 rr) := Lib.hid (PW.out.keep (fun b hb => g7.block b (by omega) (hne7 b (by omega))))
      replace MW : Hid (Mod [g] w w7) := Lib.hid (MW.out.grown g7 (fun j hj => .inr (by have := (CK.out.own.lt j hj).1; omega)))
      replace CK : Hid (Ck w7 (w1.heap.size + 1) A7 (k + 1) c7 (a ++ [y]) (xs ++ [sv y.name, nv y.k, nv y.m])) := Lib.hid ⟨o7, reps_snoc CK.out.reps rfl, by simp [CK.out.len]⟩
      clear o7 g7 h7 hne7 RD hzb
      repeat (first | (refine sreadxP rfl rfl ?_; apply Exists.intro; apply And.intro; (· (intro W hW; go_simp; try (first | with_reducible rfl | (rw [if_neg (by omega)]; try with_reducible rfl)))); simp only [Act.put, List.setIfInBounds_toArray, List.set_cons_zero, List.set_cons_succ]) | (refine pskip rfl rfl ?_; simp only [Act.put, List.setIfInBounds_toArray, List.set_cons_zero, List.set_cons_succ]))
      refine pdone ?_
      refine last_step rfl (fun K hK => ?_)
      have x0 : w7.cell? ⟨w1.heap.size, 0, none⟩ = some (sv n) := by rw [Lib.cell_of_heap BX.out]; rfl
      have x1 : w7.cell? ⟨w1.heap.size, 1, none⟩ = some (.slice A k c) := by rw [Lib.cell_of_heap BX.out]; rfl
      have x2 : w7.cell? ⟨w1.heap.size, 2, none⟩ = some (.slice none 0 0) := by rw [Lib.cell_of_heap BX.out]; rfl
      have x3 : w7.cell? ⟨w1.heap.size, 3, none⟩ = some (nv ap) := by rw [Lib.cell_of_heap BX.out]; rfl
      have x4 : w7.cell? ⟨w1.heap.size, 4, none⟩ = some (nv aq) := by rw [Lib.cell_of_heap BX.out]; rfl
      have x5 : w7.cell? ⟨w1.heap.size, 5, none⟩ = some (nv ar) := by rw [Lib.cell_of_heap BX.out]; rfl
      have fr0 : w7.frozen? ⟨w1.heap.size, 0, none⟩ = false := Lib.frozen_of_heap BX.out 0
      have fr1 : w7.frozen? ⟨w1.heap.size, 1, none⟩ = false := Lib.frozen_of_heap BX.out 1
      have fr2 : w7.frozen? ⟨w1.heap.size, 2, none⟩ = false := Lib.frozen_of_heap BX.out 2
      go_simp
      refine hK.out _ _ ?_
      clear hK K
      clear x0 x1 x2 x3 x4 x5 fr0 fr1 fr2
      obtain ⟨wc, hw⟩ : ∃ W, w7.setCell ⟨w1.heap.size, 1, none⟩ (.slice A7 (k + 1) c7) = W := ⟨_, rfl⟩
      have hzwc : wc.heap.size = w7.heap.size := by rw [← hw]; simp
      try replace CK := Lib.hid (CK.out.mod (show Mod [w1.heap.size] w7 wc by rw [← hw]; exact (Mod.refl _ _).set (.inl (by simp)) _) (fun b hb => by simp at hb; omega))
      replace BX : Hid (wc.heap[w1.heap.size]? = some (.cells #[sv n, .slice A7 (k + 1) c7, .slice none 0 0, nv ap, nv aq, nv ar] 41 (0, 0))) := Lib.hid (by rw [← hw]; exact heap_set' BX.out _ 1 rfl)
      replace RB : Hid (wc.heap[w.heap.size]? = some (.cells #[sv [], .slice none 0 0, .slice none 0 0, nv 0, nv 0, nv 0] 41 (0, 0))) := Lib.hid ((show Mod [w1.heap.size] w7 wc by rw [← hw]; exact (Mod.refl _ _).set (.inl (by simp)) _).box RB.out (by simp; omega))
      replace MW : Hid (Mod [g] w wc) := Lib.hid (by rw [← hw]; exact MW.out.set (.inr (by omega)) _)
      replace PW : Hid (Ps wc g 0 rr) := Lib.hid (by rw [← hw]; exact PW.out.set (by omega) _)
      try (first | rw [hw] | (unfold nv sv at hw; rw [hw]))
      clear hw
      have hll := PW.out.lenW
      have hln := HLN.out
      have hlc := HCL.out
      have hlt2 := HLT.out
      go_wp2_with fail
      go_roundw
      case rel => exact ⟨f2, a ++ [y], rr, k + 1, A7, c7, _, by omega, by omega, HR, BX, RB, CK, PW, MW⟩
      case measure => rw [hll, hln]; omega
     | true =>
      have hq := HR.out
      rw [hn] at hq
      simp only [if_true] at hq
      replace HR := Lib.hid hq
      clear hq
      have x1 : w9.cell? ⟨w1.heap.size, 1, none⟩ = some (.slice A k c) := by rw [Lib.cell_of_heap BX.out]; rfl
      go_wp2_with fail
      refine (room_any g 0 k 6 lt _ PW.out (by omega) (by omega)).mono ?_; rintro e w10 hN
      have m := hN.1
      replace MW := Lib.hid (MW.out.then m)
      replace BX := Lib.hid (m.box BX.out (by simp; omega))
      replace RB := Lib.hid (m.box RB.out (by simp; omega))
      try replace CK := Lib.hid (CK.out.mod m (fun b hb => by simp at hb; omega))
      rcases hN.parts with ⟨hp, er, ep, eq, ez, hne, rfl⟩ | ⟨u, r, v, hp, pN, rfl, rfl⟩
      ·rw [← CK.out.len] at hp
       have HN := Lib.hid hne
       clear hne
       have hq := HR.out
       rw [hp] at hq
       simp only [bind_bad] at hq
       subst hq
       go_wp2_with fail
       exact ⟨rfl, MW.out, er, ep, eq, ez, HN.out, rfl⟩
      have hkl : k < 6 ∧ r = lt := by
       unfold room at hp
       split at hp
       ·cases hp
       ·injection hp with _ h2
        exact ⟨by omega, h2.symm⟩
      obtain ⟨hkl, rfl⟩ := hkl
      rw [← CK.out.len] at hp
      have hq := HR.out
      rw [hp] at hq
      simp only [bind_ok] at hq
      replace HR := Lib.hid hq
      replace PW := Lib.hid pN
      clear hq hp pN
      have hk : isN r = true → k < 6 := fun e => hkl
      clear hN m x1 hn hkl
      go_wp2_with fail
      refine wp_region_last (l := [_, _, _, _, _, _, _]) [w1.heap.size] (.read 0 (.read 1 (.read 2 (.call 3 (.call 4 (.call 5 (.read 6 .done))))))) (by kernel_rfl) (by kernel_rfl) (by kernel_rfl) (fun _ _ d _ _ h => by cases d <;> exact h) ?_
      refine pwith (fun W hW => (show W.cell? ⟨w1.heap.size, 1, none⟩ = some (.slice A k c) from by rw [Lib.cell_of_heap ((hW w1.heap.size (by simp)).trans BX.out)]; rfl)) (fun k7 => ?_)
      repeat (first | (refine sreadxP rfl rfl ?_; apply Exists.intro; apply And.intro; (· (intro W hW; go_simp; try (first | with_reducible rfl | (rw [if_neg (by omega)]; try with_reducible rfl)))); simp only [Act.put, List.setIfInBounds_toArray, List.set_cons_zero, List.set_cons_succ]) | (refine pskip rfl rfl ?_; simp only [Act.put, List.setIfInBounds_toArray, List.set_cons_zero, List.set_cons_succ]))
      refine pcall rfl rfl (fun K hK => ?_)
      go_simp
      refine (col_any g 0 r _ (PW.out.next (Below.refl _ _).drew)).mono ?_; rintro e wa hN
      have m : Mod [g] w10 wa := (Mod.refl _ _).drew.then hN.1
      have hbx : w1.heap.size < w10.heap.size := (Array.getElem?_eq_some_iff.1 BX.out).1
      have hkb : wa.heap[w1.heap.size]? = w10.heap[w1.heap.size]? := m.block w1.heap.size hbx (by simp; omega)
      replace MW := Lib.hid (MW.out.then m)
      replace BX := Lib.hid (m.box BX.out (by simp; omega))
      replace RB := Lib.hid (m.box RB.out (by simp; omega))
      try replace CK := Lib.hid (CK.out.mod m (fun b hb => by simp at hb; omega))
      rcases hN.parts with ⟨hp, er, ep, eq, ez, hne, rfl⟩ | ⟨y, rr, v, hp, pN, rfl, rfl⟩
      ·have HN := Lib.hid hne
       clear hne
       have hq := HR.out
       rw [hp] at hq
       simp only [bind_bad] at hq
       subst hq
       go_wp2_with fail
       exact ⟨rfl, MW.out, er, ep, eq, ez, HN.out, rfl⟩
      have hk8' : k < 6 := hk (col_isN hp)
      have hl0 : 0 < r.length := by
       have hii := col_isN hp
       cases hc : r with
       | nil => rw [hc] at hii; cases hii
       | cons t0 l0 => simp
      have hcl := col_left r
      rw [hp] at hcl
      have HCL : Hid (rr.length < r.length) := Lib.hid (Nat.lt_of_le_of_lt (show rr.length ≤ r.length - 1 from hcl) (by omega))
      have hq := HR.out
      rw [hp] at hq
      simp only [bind_ok] at hq
      replace HR := Lib.hid hq
      replace PW := Lib.hid pN
      clear hq hp pN
      clear hN m hcl hl0
      go_wp2_with fail
      refine hK.out _ _ (fun b hb => by simp at hb; rw [hb]; exact hkb) ?_
      clear hK K hkb hk k7
      try simp only [Act.put, List.setIfInBounds_toArray, List.set_cons_zero, List.set_cons_succ]
      refine pcall rfl rfl (fun K hK => ?_)
      go_simp
      have hba : w1.heap.size < wa.heap.size := (Array.getElem?_eq_some_iff.1 BX.out).1
      refine hK.out _ _ (fun b hb => Below.heap_alloc _ _ _ (by simp at hb; omega)) ?_
      clear hK K
      try simp only [Act.put, List.setIfInBounds_toArray, List.set_cons_zero, List.set_cons_succ]
      obtain ⟨wb, hw⟩ : ∃ W, W = wa.alloc (.cells #[sv y.name, nv y.k, nv y.m] 72) := ⟨_, rfl⟩
      have m : Mod [g] wa wb := by rw [hw]; exact (Mod.refl _ _).alloc _
      have RD : Hid (Rd wb (wa.heap.size + 1) 3 (some ⟨wa.heap.size, 0, none⟩) 1 [sv y.name, nv y.k, nv y.m]) := Lib.hid (by rw [hw]; exact Rd.made _ _ rfl rfl)
      have hzb : wb.heap.size = wa.heap.size + 1 := by rw [hw]; simp
      replace PW : Hid (Ps wb g 0 rr) := Lib.hid (by rw [hw]; exact PW.out.alloc _)
      replace MW := Lib.hid (MW.out.then m)
      replace BX := Lib.hid (m.box BX.out (by simp; omega))
      replace RB := Lib.hid (m.box RB.out (by simp; omega))
      try replace CK := Lib.hid (CK.out.mod m (fun b hb => by simp at hb; omega))
      first | rw [← hw] | (unfold nv sv at hw; rw [← hw])
      clear hw m
      refine pcall rfl rfl (fun K hK => ?_)
      refine wapp4 (.tmp 36) (.tmp 39) clE rfl (w1.heap.size + 1) xs rfl CK.out.own rfl [sv y.name, nv y.k, nv y.m] RD.out (by simp [Value.oneCell']) (by unfold maxLen; omega) (by omega) (by omega) rfl ?_
      intro A7 c7 w7 o7 g7 h7
      have hne7 : ∀ b, b ≤ w1.heap.size → some b ≠ (Value.slice A k c).ownBlock := fun b hb e => by have := (CK.out.own.lt _ e.symm).1; omega
      refine hK.out _ _ (fun b hb => by simp at hb; rw [hb]; exact g7.block w1.heap.size (by omega) (hne7 _ (by omega))) ?_
      clear hK K
      try simp only [Act.put, List.setIfInBounds_toArray, List.set_cons_zero, List.set_cons_succ]
      replace BX := Lib.hid ((g7.block w1.heap.size (by omega) (hne7 _ (by omega))).trans BX.out)
      replace RB := Lib.hid ((g7.block w.heap.size (by omega) (hne7 _ (by omega))).trans RB.out)
      replace PW : Hid (Ps w7 g 0 rr) := Lib.hid (PW.out.keep (fun b hb => g7.block b (by omega) (hne7 b (by omega))))
      replace MW : Hid (Mod [g] w w7) := Lib.hid (MW.out.grown g7 (fun j hj => .inr (by have := (CK.out.own.lt j hj).1; omega)))
      replace CK : Hid (Ck w7 (w1.heap.size + 1) A7 (k + 1) c7 (a ++ [y]) (xs ++ [sv y.name, nv y.k, nv y.m])) := Lib.hid ⟨o7, reps_snoc CK.out.reps rfl, by simp [CK.out.len]⟩
      clear o7 g7 h7 hne7 RD hzb
      repeat (first | (refine sreadxP rfl rfl ?_; apply Exists.intro; apply And.intro; (· (intro W hW; go_simp; try (first | with_reducible rfl | (rw [if_neg (by omega)]; try with_reducible rfl)))); simp only [Act.put, List.setIfInBounds_toArray, List.set_cons_zero, List.set_cons_succ]) | (refine pskip rfl rfl ?_; simp only [Act.put, List.setIfInBounds_toArray, List.set_cons_zero, List.set_cons_succ]))
      refine pdone ?_
      refine last_step rfl (fun K hK => ?_)
      have x0 : w7.cell? ⟨w1.heap.size, 0, none⟩ = some (sv n) := by rw [Lib.cell_of_heap BX.out]; rfl
      have x1 : w7.cell? ⟨w1.heap.size, 1, none⟩ = some (.slice A k c) := by rw [Lib.cell_of_heap BX.out]; rfl
      have x2 : w7.cell? ⟨w1.heap.size, 2, none⟩ = some (.slice none 0 0) := by rw [Lib.cell_of_heap BX.out]; rfl
      have x3 : w7.cell? ⟨w1.heap.size, 3, none⟩ = some (nv ap) := by rw [Lib.cell_of_heap BX.out]; rfl
      have x4 : w7.cell? ⟨w1.heap.size, 4, none⟩ = some (nv aq) := by rw [Lib.cell_of_heap BX.out]; rfl
      have x5 : w7.cell? ⟨w1.heap.size, 5, none⟩ = some (nv ar) := by rw [Lib.cell_of_heap BX.out]; rfl
      have fr0 : w7.frozen? ⟨w1.heap.size, 0, none⟩ = false := Lib.frozen_of_heap BX.out 0
      have fr1 : w7.frozen? ⟨w1.heap.size, 1, none⟩ = false := Lib.frozen_of_heap BX.out 1
      have fr2 : w7.frozen? ⟨w1.heap.size, 2, none⟩ = false := Lib.frozen_of_heap BX.out 2
      go_simp
      refine hK.out _ _ ?_
      clear hK K
      clear x0 x1 x2 x3 x4 x5 fr0 fr1 fr2
      obtain ⟨wc, hw⟩ : ∃ W, w7.setCell ⟨w1.heap.size, 1, none⟩ (.slice A7 (k + 1) c7) = W := ⟨_, rfl⟩
      have hzwc : wc.heap.size = w7.heap.size := by rw [← hw]; simp
      try replace CK := Lib.hid (CK.out.mod (show Mod [w1.heap.size] w7 wc by rw [← hw]; exact (Mod.refl _ _).set (.inl (by simp)) _) (fun b hb => by simp at hb; omega))
      replace BX : Hid (wc.heap[w1.heap.size]? = some (.cells #[sv n, .slice A7 (k + 1) c7, .slice none 0 0, nv ap, nv aq, nv ar] 41 (0, 0))) := Lib.hid (by rw [← hw]; exact heap_set' BX.out _ 1 rfl)
      replace RB : Hid (wc.heap[w.heap.size]? = some (.cells #[sv [], .slice none 0 0, .slice none 0 0, nv 0, nv 0, nv 0] 41 (0, 0))) := Lib.hid ((show Mod [w1.heap.size] w7 wc by rw [← hw]; exact (Mod.refl _ _).set (.inl (by simp)) _).box RB.out (by simp; omega))
      replace MW : Hid (Mod [g] w wc) := Lib.hid (by rw [← hw]; exact MW.out.set (.inr (by omega)) _)
      replace PW : Hid (Ps wc g 0 rr) := Lib.hid (by rw [← hw]; exact PW.out.set (by omega) _)
      try (first | rw [hw] | (unfold nv sv at hw; rw [hw]))
      clear hw
      have hll := PW.out.lenW
      have hln := HLN.out
      have hlc := HCL.out
      have hlt2 := HLT.out
      go_wp2_with fail
      go_roundw
      case rel => exact ⟨f2, a ++ [y], rr, k + 1, A7, c7, _, by omega, by omega, HR, BX, RB, CK, PW, MW⟩
      case measure => rw [hll, hln]; omega
end Go.Proofs.YtnbmpfdffoidaaaGreatDoor.Y
namespace Go.Proofs.YtnbmpfdffoidaaaGreatDoor.Y
open Go.RowKit O V S X
theorem tbE : Elem Tryz.prog 22 66 3 48 (.agg #[.string ByteArray.empty, .int .i64 0, .slice none 0 0]) := by
 obtain ⟨i, hi, h1, h2, h3⟩ := info_parts (show (Tryz.prog.info? 66).map (fun i => (i.zero, i.size, i.bytes)) = some (some (.agg #[.string ByteArray.empty, .int .i64 0, .slice none 0 0]), 3, 48) by kernel_rfl)
 exact ⟨Tryz.underlying22, i, hi, h1, h2, h3, rfl, by omega⟩
theorem pcE : Elem Tryz.prog 23 41 6 88 (.agg #[.string ByteArray.empty, .slice none 0 0, .slice none 0 0, .int .i64 0, .int .i64 0, .int .i64 0]) := by
 obtain ⟨i, hi, h1, h2, h3⟩ := info_parts (show (Tryz.prog.info? 41).map (fun i => (i.zero, i.size, i.bytes)) = some (some (.agg #[.string ByteArray.empty, .slice none 0 0, .slice none 0 0, .int .i64 0, .int .i64 0, .int .i64 0]), 6, 88) by kernel_rfl)
 exact ⟨Tryz.underlying23, i, hi, h1, h2, h3, rfl, by omega⟩
theorem tb_keep (w w' : World) (S : Nat → Prop) (a : Tb) (vs : List Value) (h : ∀ b, S b → w'.heap[b]? = w.heap[b]?) (k : TbR w S a vs) : TbR w' S a vs := TbR.keep h a vs k
theorem tb_mono (w : World) (S S' : Nat → Prop) (a : Tb) (vs : List Value) (h : ∀ b, S b → S' b) (k : TbR w S a vs) : TbR w S' a vs := TbR.mono h a vs k
theorem pc_keep (w w' : World) (S : Nat → Prop) (a : Pc) (vs : List Value) (h : ∀ b, S b → w'.heap[b]? = w.heap[b]?) (k : PcR w S a vs) : PcR w' S a vs := PcR.keep h a vs k
theorem pc_mono (w : World) (S S' : Nat → Prop) (a : Pc) (vs : List Value) (h : ∀ b, S b → S' b) (k : PcR w S a vs) : PcR w S' a vs := PcR.mono h a vs k
structure Tk {α : Type} (rep : World → (Nat → Prop) → α → List Value → Prop) (e : TypeId) (size : Nat) (w : World) (lo : Nat) (A : Option Addr) (k c : Nat) (a : List α) (xs : List Value) (S : Nat → Prop) : Prop where
 own : w.ownsRow lo e size (.slice A k c) k xs
 reps : Reps (rep w S) a xs
 out : ∀ b, S b → lo ≤ b ∧ b < w.heap.size ∧ (Value.slice A k c).ownBlock ≠ some b
 len : a.length = k
section
variable {α : Type} {rep : World → (Nat → Prop) → α → List Value → Prop} {e : TypeId} {size : Nat}
theorem Tk.nil_ (w : World) (lo : Nat) : Tk rep e size w lo none 0 0 [] [] (fun _ => False) := ⟨World.ownsRow_nil _ _ _ _, rfl, fun _ h => h.elim, rfl⟩
theorem Tk.mod {w w' : World} {lo k c : Nat} {A : Option Addr} {a : List α} {xs : List Value} {S : Nat → Prop} {bs : List Nat} (hkeep : ∀ (w w' : World) (S : Nat → Prop) (a : α) (vs : List Value), (∀ b, S b → w'.heap[b]? = w.heap[b]?) → rep w S a vs → rep w' S a vs)
  (h : Tk rep e size w lo A k c a xs S) (m : Mod bs w w') (hb : ∀ b ∈ bs, b < lo) : Tk rep e size w' lo A k c a xs S :=
 ⟨own_mod h.own m (fun j hj hx => by have := (h.own.lt j hj).1; have := hb j hx; omega),
  h.reps.imp (fun x vs => hkeep w w' S x vs fun b hs => m.block b (h.out b hs).2.1 (fun hx => by have := hb b hx; have := (h.out b hs).1; omega)),
  fun b hs => ⟨(h.out b hs).1, Nat.lt_of_lt_of_le (h.out b hs).2.1 m.size, (h.out b hs).2.2⟩, h.len⟩
theorem Tk.app {w w7 : World} {lo k c c7 : Nat} {A A7 : Option Addr} {a : List α} {y : α} {xs vs : List Value} {S S5 : Nat → Prop}
  (hkeep : ∀ (w w' : World) (S : Nat → Prop) (a : α) (vs : List Value), (∀ b, S b → w'.heap[b]? = w.heap[b]?) → rep w S a vs → rep w' S a vs)
  (hmono : ∀ (w : World) (S S' : Nat → Prop) (a : α) (vs : List Value), (∀ b, S b → S' b) → rep w S a vs → rep w S' a vs)
  (h : Tk rep e size w lo A k c a xs S) (hy : rep w S5 y vs) (h5 : ∀ b, S5 b → lo ≤ b ∧ b < w.heap.size ∧ (Value.slice A k c).ownBlock ≠ some b)
  (o7 : w7.ownsRow lo e size (.slice A7 (k + 1) c7) (k + 1) (xs ++ vs)) (g7 : w.grownBy w7 (Value.slice A k c).ownBlock) (h7 : (Value.slice A7 (k + 1) c7).ownBlock = (Value.slice A k c).ownBlock ∨ (Value.slice A7 (k + 1) c7).ownBlock = some w.heap.size) :
  Tk rep e size w7 lo A7 (k + 1) c7 (a ++ [y]) (xs ++ vs) (fun b => S b ∨ S5 b) := by
 obtain ⟨r1, e1⟩ := app_keep hkeep h.reps h.out g7 h7
 obtain ⟨r2, e2⟩ := app_keep (l := [y]) hkeep (Reps.one hy) h5 g7 h7
 obtain ⟨us, ys, q1, q2, q3⟩ := r2
 have q3 : ys = [] := q3
 subst q3
 rw [List.append_nil] at q1
 subst q1
 exact ⟨o7, reps_two hmono r1 q2, fun b hb => hb.elim (e1 b) (e2 b), by simp [h.len]⟩
end
end Go.Proofs.YtnbmpfdffoidaaaGreatDoor.Y
