/- Texts of the proof, joined: SynCall. -/
import Derived.Test.YtnbmpfdffoidaaaGreatDoorBk16
set_option linter.unusedVariables false
set_option linter.unusedSimpArgs false
set_option maxHeartbeats 8000000
set_option maxRecDepth 100000
namespace Go.Proofs.YtnbmpfdffoidaaaGreatDoor.Y
open Go.RowKit O V S X
def pArgs (f d : Nat) : Nat → List Ex → List Tok → Res (List Ex)
 | 0, acc, l => .ok acc l
 | n + 1, acc, l => (want l [44]).bind fun _ r => (pExpr f 0 d r).bind fun a r => pArgs f d n (acc ++ [a]) r
def pCall1 (f kind n d : Nat) (l : List Tok) : Res (List UInt8 × List UInt8 × List Ex) :=
 (pName l).bind fun nm r => (if kind = 5 then (want r [46]).bind fun _ r => pName r else .ok [] r).bind fun c r => (pArgs f d n [] r).bind fun es r => .ok (nm, c, es) r
def GC (lo bx kind : Nat) (p q z : Int) (t : List UInt8 × List UInt8 × List Ex) (w' : World) : Prop := ∃ A c xs S,
 w'.heap[bx]? = some (.cells #[nv kind, nv 0, nv 0, sv [], sv t.1, sv t.2.1, nv 0, .slice A t.2.2.length c, nv p, nv q, nv z] 59 (0, 0)) ∧
 w'.ownsRow lo 59 11 (.slice A t.2.2.length c) t.2.2.length xs ∧ Reps (ExR w' S) t.2.2 xs ∧ ∀ b, S b → lo ≤ b ∧ b < w'.heap.size
structure B4 (w : World) (g bx b4 b5 b6 b7 kind n : Nat) : Prop where
 h4 : w.heap[b4]? = some (.cells #[.pointer (some ⟨g, 0, none⟩)] 51 (0, 0))
 h5 : w.heap[b5]? = some (.cells #[.pointer (some ⟨bx, 0, none⟩)] 192 (0, 0))
 h6 : w.heap[b6]? = some (.cells #[nv kind] 3 (0, 0))
 h7 : w.heap[b7]? = some (.cells #[nv n] 3 (0, 0))
theorem B4.keep {w w' : World} {g bx b4 b5 b6 b7 kind n : Nat} (h : B4 w g bx b4 b5 b6 b7 kind n) (hk : ∀ b, b = b4 ∨ b = b5 ∨ b = b6 ∨ b = b7 → w'.heap[b]? = w.heap[b]?) : B4 w' g bx b4 b5 b6 b7 kind n :=
 ⟨(hk _ (.inl rfl)).trans h.h4, (hk _ (.inr (.inl rfl))).trans h.h5, (hk _ (.inr (.inr (.inl rfl)))).trans h.h6, (hk _ (.inr (.inr (.inr rfl)))).trans h.h7⟩
theorem B4.lt {w : World} {g bx b4 b5 b6 b7 kind n : Nat} (h : B4 w g bx b4 b5 b6 b7 kind n) : ∀ b, b = b4 ∨ b = b5 ∨ b = b6 ∨ b = b7 → b < w.heap.size := by
 rintro b (rfl | rfl | rfl | rfl)
 ·exact (Array.getElem?_eq_some_iff.1 h.h4).1
 ·exact (Array.getElem?_eq_some_iff.1 h.h5).1
 ·exact (Array.getElem?_eq_some_iff.1 h.h6).1
 ·exact (Array.getElem?_eq_some_iff.1 h.h7).1
theorem B4.mod {w w' : World} {g bx b4 b5 b6 b7 kind n : Nat} {bs : List Nat} (h : B4 w g bx b4 b5 b6 b7 kind n) (m : Mod bs w w') (hk : ∀ b, b = b4 ∨ b = b5 ∨ b = b6 ∨ b = b7 → b ∉ bs) : B4 w' g bx b4 b5 b6 b7 kind n :=
 h.keep fun b hb => m.block b (h.lt b hb) (hk b hb)
theorem B4.cells {w : World} {g bx b4 b5 b6 b7 kind n : Nat} (h : B4 w g bx b4 b5 b6 b7 kind n) : (w.cell? ⟨b4, 0, none⟩ = some (.pointer (some ⟨g, 0, none⟩)) ∧ w.cell? ⟨b5, 0, none⟩ = some (.pointer (some ⟨bx, 0, none⟩))) ∧ w.cell? ⟨b6, 0, none⟩ = some (nv kind) ∧ w.cell? ⟨b7, 0, none⟩ = some (nv n) := by
 refine ⟨⟨?_, ?_⟩, ?_, ?_⟩
 ·rw [Lib.cell_of_heap h.h4]; rfl
 ·rw [Lib.cell_of_heap h.h5]; rfl
 ·rw [Lib.cell_of_heap h.h6]; rfl
 ·rw [Lib.cell_of_heap h.h7]; rfl
theorem call1_any (f : Nat) (hE : EC f) (g d bx b4 b5 b6 b7 kind n : Nat) (p q z : Int) (l : List Tok) (w : World) (h : Ps w g d l) (hd : d ≤ 16) (hno : pCall1 f kind n d l ≠ .oof) (hb : B4 w g bx b4 b5 b6 b7 kind n)
  (h1 : w.heap[bx]? = some (.cells #[nv kind, nv 0, nv 0, sv [], sv [], sv [], nv 0, .slice none 0 0, nv p, nv q, nv z] 59 (0, 0))) (hg1 : g < bx) (hx1 : ∀ b, b = b4 ∨ b = b5 ∨ b = b6 ∨ b = b7 → bx < b) (hkn : kind ≤ 100 ∧ n ≤ 100) :
  Calls Tryz.prog 186 #[.pointer (some ⟨b4, 0, none⟩), .pointer (some ⟨b5, 0, none⟩), .pointer (some ⟨b6, 0, none⟩), .pointer (some ⟨b7, 0, none⟩)] w (Out [g, bx] g d w (pCall1 f kind n d l) fun t w' v => v = .tuple #[] ∧ GC w.heap.size bx kind p q z t w') := by
 have HS := Lib.hid h
 have HB := Lib.hid hb
 have HX := Lib.hid h1
 have HE := Lib.hid hE
 have HX1 := Lib.hid hx1
 have hlt := h.lt
 have hbxl : bx < w.heap.size := (Array.getElem?_eq_some_iff.1 h1).1
 have hnb : Hid (∀ b, b = b4 ∨ b = b5 ∨ b = b6 ∨ b = b7 → b ∉ [g, bx] ∧ b < w.heap.size) := Lib.hid (fun b hh => ⟨by have := hx1 b hh; simp; omega, hb.lt b hh⟩)
 obtain ⟨RT, hRT⟩ : ∃ RT, pCall1 f kind n d l = RT := ⟨_, rfl⟩
 rw [hRT] at hno ⊢
 unfold pCall1 at hRT
 have HRT := Lib.hid hRT
 have HNO := Lib.hid hno
 clear h hb h1 hE hx1 hno hRT
 have hb4l := (hnb.out b4 (.inl rfl)).2
 have hb5l := (hnb.out b5 (.inr (.inl rfl))).2
 have hb6l := (hnb.out b6 (.inr (.inr (.inl rfl)))).2
 have hb7l := (hnb.out b7 (.inr (.inr (.inr rfl)))).2
 have hb5x := HX1.out b5 (.inr (.inl rfl))
 have hb4x := HX1.out b4 (.inl rfl)
 go_enter Tryz.func186, Tryz.ntmps186
 go_wp2_with fail
 refine wp_region_plan [b4, b5] (.read 0 (.read 1 (.call 2 (.read 3 (.read 4 (.call 5 .done)))))) (by kernel_rfl) (by kernel_rfl) (fun _ _ d _ _ h => by cases d <;> exact h) ?_
 refine pwith (fun W hW => (show W.cell? ⟨b5, 0, none⟩ = some (.pointer (some ⟨bx, 0, none⟩)) from by rw [Lib.cell_of_heap ((hW b5 (by simp)).trans HB.out.h5)]; rfl)) (fun k5 => ?_)
 refine pwith (fun W hW => (show W.cell? ⟨b4, 0, none⟩ = some (.pointer (some ⟨g, 0, none⟩)) from by rw [Lib.cell_of_heap ((hW b4 (by simp)).trans HB.out.h4)]; rfl)) (fun k4 => ?_)
 repeat (first | (refine sreadxP rfl rfl ?_; apply Exists.intro; apply And.intro; (· (intro W hW; go_simp; try (first | with_reducible rfl | (rw [if_neg (by omega)]; try with_reducible rfl)))); simp only [Act.put, List.setIfInBounds_toArray, List.set_cons_zero, List.set_cons_succ]) | (refine pskip rfl rfl ?_; simp only [Act.put, List.setIfInBounds_toArray, List.set_cons_zero, List.set_cons_succ]))
 refine pcall rfl rfl (fun K hK => ?_)
 go_simp
 refine (name_any g d l w.drew (HS.out.next (Below.refl _ _).drew)).mono ?_; rintro e w1 ⟨m1, h1⟩
 have M1 : Hid (Mod [g] w w1) := Lib.hid ((Mod.refl _ _).drew.then m1)
 cases hp : pName l with
 | oof => rw [hp] at h1; exact h1.elim
 | bad =>
  rw [hp] at h1
  obtain ⟨er, ep, eq, ez, hne, rfl⟩ := h1
  have HN := Lib.hid hne
  clear hne
  have hq := (by have := HRT.out; rw [hp] at this; exact this)
  simp only [bind_bad, bind_ok] at hq
  subst hq
  try simp only [lastQ]
  go_wp2_with fail
  exact ⟨rfl, M1.out.more (fun x hx => .inl (by simp at hx; simp [hx])), er, ep, eq, ez, HN.out, rfl⟩
 | ok nm r1 =>
  rw [hp] at h1
  obtain ⟨p1, v, rfl, rfl, hnm⟩ := h1
  have HP1 := Lib.hid p1
  have hR1 := HRT.out
  rw [hp] at hR1
  simp only [bind_ok] at hR1
  have HR1 := Lib.hid hR1
  have HX1' := Lib.hid (M1.out.box HX.out (by simp; omega))
  have HB1 := Lib.hid (HB.out.mod M1.out (fun b hh => by have := hnb.out b hh; simp at this ⊢; omega))
  have hs1 := M1.out.size
  go_wp2_with fail
  refine hK.out _ _ (fun b hb => m1.block b (by simp at hb; show b < w.heap.size; omega) (by simp at hb ⊢; omega)) ?_
  clear hK K p1 hR1 hp m1 k5 k4
  try simp only [Act.put, List.setIfInBounds_toArray, List.set_cons_zero, List.set_cons_succ]
  repeat (first | (refine sreadxP rfl rfl ?_; apply Exists.intro; apply And.intro; (· (intro W hW; go_simp; try (first | with_reducible rfl | (rw [if_neg (by omega)]; try with_reducible rfl)))); simp only [Act.put, List.setIfInBounds_toArray, List.set_cons_zero, List.set_cons_succ]) | (refine pskip rfl rfl ?_; simp only [Act.put, List.setIfInBounds_toArray, List.set_cons_zero, List.set_cons_succ]))
  obtain ⟨⟨⟨⟨y0, y1⟩, y2, y3⟩, ⟨y4, y5⟩, y6, y7⟩, ⟨y8, y9⟩, y10⟩ := cells11 HX1'.out
  obtain ⟨⟨⟨⟨fr0, fr1⟩, fr2, fr3⟩, ⟨fr4, fr5⟩, fr6, fr7⟩, ⟨fr8, fr9⟩, fr10⟩ := frozen11 HX1'.out
  refine pcall rfl rfl (fun K hK => ?_)
  go_simp
  refine hK.out _ _ (fun b hb => Below.heap_setCell _ _ _ _ (by simp at hb ⊢; omega)) ?_
  clear hK K
  try simp only [Act.put, List.setIfInBounds_toArray, List.set_cons_zero, List.set_cons_succ]
  refine pdone ?_
  clear y0 y1 y2 y3 y4 y5 y6 y7 y8 y9 y10 fr0 fr1 fr2 fr3 fr4 fr5 fr6 fr7 fr8 fr9 fr10
  have X2 : Hid ((w1.setCell ⟨bx, 4, none⟩ (.string ⟨nm.toArray⟩)).heap[bx]? = some (.cells #[nv kind, nv 0, nv 0, sv [], sv nm, sv [], nv 0, .slice none 0 0, nv p, nv q, nv z] 59 (0, 0))) := Lib.hid (heap_set' HX1'.out _ 4 rfl)
  have HP2 := Lib.hid (HP1.out.set (i := 4) hg1 (.string ⟨nm.toArray⟩))
  have M2 : Hid (Mod [g, bx] w (w1.setCell ⟨bx, 4, none⟩ (.string ⟨nm.toArray⟩))) := Lib.hid ((M1.out.more (fun x hx => .inl (by simp at hx; simp [hx]))).set (.inl (by simp)) _)
  have HB2 := Lib.hid (HB.out.mod M2.out (fun b hh => (hnb.out b hh).1))
  generalize w1.setCell ⟨bx, 4, none⟩ (.string ⟨nm.toArray⟩) = w2 at *
  clear HX1' HP1 HB1 M1 hs1
  obtain ⟨⟨c4, c5⟩, c6, c7⟩ := HB2.out.cells
  have hs2 := M2.out.size
  go_upto_if 10 with fail
  go_cut [13] (fun _ wx => ∃ (cl : List UInt8) (r4 : List Tok), Hid ((pArgs f d n [] r4).bind (fun es r => Res.ok (nm, cl, es) r) = RT) ∧ Hid (wx.heap[bx]? = some (.cells #[nv kind, nv 0, nv 0, sv [], sv nm, sv cl, nv 0, .slice none 0 0, nv p, nv q, nv z] 59 (0, 0))) ∧ Hid (Ps wx g d r4) ∧ Hid (Mod [g, bx] w wx))
  case first =>
   by_cases hk5 : kind = 5
   ·have e1 : ((kind : Int) == 5) = true := by simp; omega
    have hR2 := HR1.out
    rw [if_pos hk5] at hR2
    have HR2 := Lib.hid hR2
    clear hR2 hk5
    go_wp2_with fail
    refine (want_any g d r1 [46] w2.heap.size _ (HP2.out.alloc _) (by omega) (alloc_at rfl)).mono ?_; rintro e w3 ⟨m3, h3⟩
    have M3 : Hid (Mod [g] w2 w3) := Lib.hid (((Mod.refl _ _).alloc _).then m3)
    clear m3
    cases hp : want r1 [46] with
    | oof => rw [hp] at h3; exact h3.elim
    | bad =>
     rw [hp] at h3
     obtain ⟨er, ep, eq, ez, hne, rfl⟩ := h3
     have HN := Lib.hid hne
     clear hne
     have hq := (by have := HR2.out; rw [hp] at this; exact this)
     simp only [bind_bad, bind_ok] at hq
     subst hq
     try simp only [lastQ]
     go_wp2_with fail
     exact ⟨rfl, M2.out.then (M3.out.more (fun x hx => .inl (by simp at hx; simp [hx]))), er, ep, eq, ez, HN.out, rfl⟩
    | ok u3 r3 =>
     rw [hp] at h3
     obtain ⟨p3, v, rfl, rfl⟩ := h3
     have hR3 := HR2.out
     rw [hp] at hR3
     simp only [bind_ok] at hR3
     have HR3 := Lib.hid hR3
     have HP3 := Lib.hid p3
     have X3 := Lib.hid (M3.out.box X2.out (by simp; omega))
     have HM3 : Hid (Mod [g, bx] w w3) := Lib.hid (M2.out.then (M3.out.more (fun x hx => .inl (by simp at hx; simp [hx]))))
     have HB3 := Lib.hid (HB.out.mod HM3.out (fun b hh => (hnb.out b hh).1))
     have hs3 := HM3.out.size
     clear p3 hR3 hp HP2 X2 HB2 M3 HR2 HR1 c4 c5 c6 c7
     go_wp2_with fail
     refine wp_region_plan [b4, b5] (.read 0 (.read 1 (.call 2 (.read 3 (.read 4 (.call 5 .done)))))) (by kernel_rfl) (by kernel_rfl) (fun _ _ d _ _ h => by cases d <;> exact h) ?_
     refine pwith (fun W hW => (show W.cell? ⟨b5, 0, none⟩ = some (.pointer (some ⟨bx, 0, none⟩)) from by rw [Lib.cell_of_heap ((hW b5 (by simp)).trans HB3.out.h5)]; rfl)) (fun k5 => ?_)
     refine pwith (fun W hW => (show W.cell? ⟨b4, 0, none⟩ = some (.pointer (some ⟨g, 0, none⟩)) from by rw [Lib.cell_of_heap ((hW b4 (by simp)).trans HB3.out.h4)]; rfl)) (fun k4 => ?_)
     repeat (first | (refine sreadxP rfl rfl ?_; apply Exists.intro; apply And.intro; (· (intro W hW; go_simp; try (first | with_reducible rfl | (rw [if_neg (by omega)]; try with_reducible rfl)))); simp only [Act.put, List.setIfInBounds_toArray, List.set_cons_zero, List.set_cons_succ]) | (refine pskip rfl rfl ?_; simp only [Act.put, List.setIfInBounds_toArray, List.set_cons_zero, List.set_cons_succ]))
     refine pcall rfl rfl (fun K hK => ?_)
     go_simp
     refine (name_any g d r3 w3.drew (HP3.out.next (Below.refl _ _).drew)).mono ?_; rintro e w4 ⟨m4, h4⟩
     have M4 : Hid (Mod [g] w3 w4) := Lib.hid ((Mod.refl _ _).drew.then m4)
     cases hp : pName r3 with
     | oof => rw [hp] at h4; exact h4.elim
     | bad =>
      rw [hp] at h4
      obtain ⟨er, ep, eq, ez, hne, rfl⟩ := h4
      have HN := Lib.hid hne
      clear hne
      have hq := (by have := HR3.out; rw [hp] at this; exact this)
      simp only [bind_bad, bind_ok] at hq
      subst hq
      try simp only [lastQ]
      go_wp2_with fail
      exact ⟨rfl, HM3.out.then (M4.out.more (fun x hx => .inl (by simp at hx; simp [hx]))), er, ep, eq, ez, HN.out, rfl⟩
     | ok cl r4 =>
      rw [hp] at h4
      obtain ⟨p4, v, rfl, rfl, hcl⟩ := h4
      have hR4 := HR3.out
      rw [hp] at hR4
      simp only [bind_ok] at hR4
      have HR4 := Lib.hid hR4
      have HP4 := Lib.hid p4
      have X4 := Lib.hid (M4.out.box X3.out (by simp; omega))
      go_wp2_with fail
      refine hK.out _ _ (fun b hb => m4.block b (by simp at hb; show b < w3.heap.size; omega) (by simp at hb ⊢; omega)) ?_
      clear hK K p4 hR4 hp m4 k5 k4
      try simp only [Act.put, List.setIfInBounds_toArray, List.set_cons_zero, List.set_cons_succ]
      repeat (first | (refine sreadxP rfl rfl ?_; apply Exists.intro; apply And.intro; (· (intro W hW; go_simp; try (first | with_reducible rfl | (rw [if_neg (by omega)]; try with_reducible rfl)))); simp only [Act.put, List.setIfInBounds_toArray, List.set_cons_zero, List.set_cons_succ]) | (refine pskip rfl rfl ?_; simp only [Act.put, List.setIfInBounds_toArray, List.set_cons_zero, List.set_cons_succ]))
      obtain ⟨⟨⟨⟨y0, y1⟩, y2, y3⟩, ⟨y4, y5⟩, y6, y7⟩, ⟨y8, y9⟩, y10⟩ := cells11 X4.out
      obtain ⟨⟨⟨⟨fr0, fr1⟩, fr2, fr3⟩, ⟨fr4, fr5⟩, fr6, fr7⟩, ⟨fr8, fr9⟩, fr10⟩ := frozen11 X4.out
      have hs4 := M4.out.size
      refine pcall rfl rfl (fun K hK => ?_)
      go_simp
      refine hK.out _ _ (fun b hb => Below.heap_setCell _ _ _ _ (by simp at hb ⊢; omega)) ?_
      clear hK K
      try simp only [Act.put, List.setIfInBounds_toArray, List.set_cons_zero, List.set_cons_succ]
      refine pdone ?_
      clear y0 y1 y2 y3 y4 y5 y6 y7 y8 y9 y10 fr0 fr1 fr2 fr3 fr4 fr5 fr6 fr7 fr8 fr9 fr10
      have X5 : Hid ((w4.setCell ⟨bx, 5, none⟩ (.string ⟨cl.toArray⟩)).heap[bx]? = some (.cells #[nv kind, nv 0, nv 0, sv [], sv nm, sv cl, nv 0, .slice none 0 0, nv p, nv q, nv z] 59 (0, 0))) := Lib.hid (heap_set' X4.out _ 5 rfl)
      have HP5 := Lib.hid (HP4.out.set (i := 5) hg1 (.string ⟨cl.toArray⟩))
      have M5 : Hid (Mod [g, bx] w (w4.setCell ⟨bx, 5, none⟩ (.string ⟨cl.toArray⟩))) := Lib.hid ((HM3.out.then (M4.out.more (fun x hx => .inl (by simp at hx; simp [hx])))).set (.inl (by simp)) _)
      generalize w4.setCell ⟨bx, 5, none⟩ (.string ⟨cl.toArray⟩) = w5 at *
      clear X4 X3 HP4 HP3 HM3 HB3 M4 hs3 hs4 HR3
      have HR5 : Hid ((pArgs f d n [] r4).bind (fun es r => Res.ok (nm, cl, es) r) = RT) := HR4
      go_wp2_with fail
      go_meet
      exact ⟨cl, r4, HR5, X5, HP5, M5⟩
   ·have e1 : ((kind : Int) == 5) = false := by simp; omega
    have hR2 := HR1.out
    rw [if_neg hk5] at hR2
    have HR5 : Hid ((pArgs f d n [] r1).bind (fun es r => Res.ok (nm, [], es) r) = RT) := Lib.hid hR2
    clear hR2 hk5
    go_wp2_with fail
    go_meet
    exact ⟨[], r1, HR5, X2, HP2, M2⟩
  case rest =>
   obtain ⟨cl, r4, HR5, X5, HP5, M5⟩ := hcut
   obtain ⟨w5, hw5⟩ : ∃ w5, w5 = wc := ⟨_, rfl⟩
   subst hw5
   have HB5 := Lib.hid (HB.out.mod M5.out (fun b hh => (hnb.out b hh).1))
   clear c4 c5 c6 c7 X2 HP2 M2 HB2
   obtain ⟨⟨c4, c5⟩, c6, c7⟩ := HB5.out.cells
   go_wp2_with fail
   clear c4 c5 c6 c7
   go_loopw [20] (fun i wr => ∃ (k : Nat) (acc : List Ex) (r : List Tok) (A : Option Addr) (c : Nat) (xs : List Value) (S : Nat → Prop), i = nv k ∧ acc.length = k ∧ k ≤ n ∧ Hid ((pArgs f d (n - k) acc r).bind (fun es r => Res.ok (nm, cl, es) r) = RT) ∧ Hid (wr.heap[bx]? = some (.cells #[nv kind, nv 0, nv 0, sv [], sv nm, sv cl, nv 0, .slice A k c, nv p, nv q, nv z] 59 (0, 0))) ∧ Hid (wr.ownsRow w.heap.size 59 11 (.slice A k c) k xs) ∧ Hid (Reps (ExR wr S) acc xs) ∧ Hid (∀ b, S b → w.heap.size ≤ b ∧ b < wr.heap.size ∧ (Value.slice A k c).ownBlock ≠ some b) ∧ Hid (Ps wr g d r) ∧ Hid (Mod [g, bx] w wr)) (fun i _ => n - (intOf i).toNat)
   case atStart => exact ⟨0, [], r4, none, 0, [], fun _ => False, rfl, rfl, Nat.zero_le _, HR5, X5, Lib.hid (World.ownsRow_nil _ _ _ _), Lib.hid rfl, Lib.hid (fun _ h => h.elim), HP5, M5⟩
   case round =>
    obtain ⟨k, acc, r, A, c, xs, S, rfl, hacc, hkn2, HR, HXr, HO, HT, HSS, HP, HM⟩ := hrel
    clear HR5 X5 HP5 M5 HB5
    have HBr := Lib.hid (HB.out.mod HM.out (fun b hh => (hnb.out b hh).1))
    obtain ⟨⟨c4, c5⟩, c6, c7⟩ := HBr.out.cells
    have hsr := HM.out.size
    by_cases hlt2 : k < n
    ·have d1 : decide ((k : Int) < (n : Int)) = true := by simp; omega
     have d2 : decide (k < n) = true := by simp; omega
     obtain ⟨m, hm⟩ : ∃ m, n - k = m + 1 := ⟨n - k - 1, by omega⟩
     have hR1 := HR.out
     rw [hm, pArgs, bind_assoc] at hR1
     have HRa := Lib.hid hR1
     have hm1 : n - (k + 1) = m := by omega
     clear hR1 HR hm
     go_wp2_with fail
     refine (want_any g d r [44] wr.heap.size _ (HP.out.alloc _) (by omega) (alloc_at rfl)).mono ?_; rintro e wa ⟨ma, ha⟩
     have Ma : Hid (Mod [g] wr wa) := Lib.hid (((Mod.refl _ _).alloc _).then ma)
     clear ma
     cases hp : want r [44] with
     | oof => rw [hp] at ha; exact ha.elim
     | bad =>
      rw [hp] at ha
      obtain ⟨er, ep, eq, ez, hne, rfl⟩ := ha
      have HN := Lib.hid hne
      clear hne
      have hq := (by have := HRa.out; rw [hp] at this; exact this)
      simp only [bind_bad, bind_ok] at hq
      subst hq
      try simp only [lastQ]
      go_wp2_with fail
      exact ⟨rfl, HM.out.then (Ma.out.more (fun x hx => .inl (by simp at hx; simp [hx]))), er, ep, eq, ez, HN.out, rfl⟩
     | ok ua ra =>
      rw [hp] at ha
      obtain ⟨pa, v, rfl, rfl⟩ := ha
      have hRb := HRa.out
      rw [hp] at hRb
      simp only [bind_ok] at hRb
      have HRb := Lib.hid hRb
      have HPa := Lib.hid pa
      clear pa hRb hp HRa
      go_wp2_with fail
      go_region
      ·have hMb : Mod [g] wr ((wa.alloc (.cells #[.bool false] 4)).drew) := (Ma.out.alloc _).drew
       have HPb : Hid (Ps ((wa.alloc (.cells #[.bool false] 4)).drew) g d ra) := Lib.hid ((HPa.out.alloc (.cells #[.bool false] 4)).next (Below.refl _ _).drew)
       obtain ⟨wb, hwb⟩ : ∃ wb, ((wa.alloc (.cells #[.bool false] 4)).drew) = wb := ⟨_, rfl⟩
       rw [hwb] at hMb HPb ⊢
       clear hwb
       have Mb := Lib.hid hMb
       have HMb : Hid (Mod [g, bx] w wb) := Lib.hid (HM.out.then (hMb.more (fun x hx => .inl (by simp at hx; simp [hx]))))
       have HBb := Lib.hid (HB.out.mod HMb.out (fun b hh => (hnb.out b hh).1))
       have Xb := Lib.hid (hMb.box HXr.out (by simp; omega))
       have hown : ∀ j, (Value.slice A k c).ownBlock = some j → w.heap.size ≤ j ∧ j < wr.heap.size := fun j hj => HO.out.lt j hj
       have HOb := Lib.hid (own_mod HO.out hMb (fun j hj => by have := hown j hj; simp; omega))
       have HTb : Hid (Reps (ExR wb S) acc xs) := Lib.hid (HT.out.imp (fun x vs => ExR.keep (fun b hb => hMb.block b (HSS.out b hb).2.1 (by have := HSS.out b hb; simp; omega)) x vs))
       have hsb := hMb.size
       have HSb : Hid (∀ b, S b → w.heap.size ≤ b ∧ b < wb.heap.size ∧ (Value.slice A k c).ownBlock ≠ some b) := Lib.hid (fun b hb => by have := HSS.out b hb; exact ⟨this.1, by omega, this.2.2⟩)
       have HOW := Lib.hid hown
       clear hMb hown HPa Ma HXr HO HT HSS HP HM HBr c4 c5 c6 c7 Mb
       have hsw : w.heap.size ≤ wb.heap.size := by omega
       go_wp2_with fail
       refine wp_region_last (l := [_, _, _, _, _, _, _, _, _, _, _]) [b4, b5, bx] (.read 0 (.read 1 (.read 2 (.read 3 (.read 4 (.read 5 (.call 6 (.call 7 (.call 8 (.read 9 (.read 10 .done))))))))))) (by kernel_rfl) (by kernel_rfl) (by kernel_rfl) (fun _ _ d _ _ h => by cases d <;> exact h) ?_
       refine pwith (fun W hW => (show W.cell? ⟨b5, 0, none⟩ = some (.pointer (some ⟨bx, 0, none⟩)) from by rw [Lib.cell_of_heap ((hW b5 (by simp)).trans HBb.out.h5)]; rfl)) (fun k5 => ?_)
       refine pwith (fun W hW => (show W.cell? ⟨b4, 0, none⟩ = some (.pointer (some ⟨g, 0, none⟩)) from by rw [Lib.cell_of_heap ((hW b4 (by simp)).trans HBb.out.h4)]; rfl)) (fun k4 => ?_)
       refine pwith (fun W hW => (show W.cell? ⟨bx, 7, none⟩ = some (.slice A k c) from by rw [Lib.cell_of_heap ((hW bx (by simp)).trans Xb.out)]; rfl)) (fun k7 => ?_)
       repeat (first | (refine sreadxP rfl rfl ?_; apply Exists.intro; apply And.intro; (· (intro W hW; go_simp; try (first | with_reducible rfl | (rw [if_neg (by omega)]; try with_reducible rfl)))); simp only [Act.put, List.setIfInBounds_toArray, List.set_cons_zero, List.set_cons_succ]) | (refine pskip rfl rfl ?_; simp only [Act.put, List.setIfInBounds_toArray, List.set_cons_zero, List.set_cons_succ]))
       refine pcall rfl rfl (fun K hK => ?_)
       go_simp
       have hRc := HRb.out
       rw [bind_assoc] at hRc
       have hnoE := bind_no hRc HNO.out
       have HRc := Lib.hid hRc
       clear hRc HRb
       refine (HE.out g d 0 ra wb.drew (HPb.out.next (Below.refl _ _).drew) hd hnoE).mono ?_; rintro e wc ⟨mc, hc⟩
       have Mc : Hid (Mod [g] wb wc) := Lib.hid ((Mod.refl _ _).drew.then mc)
       cases hp : pExpr f 0 d ra with
       | oof => exact absurd hp hnoE
       | bad =>
        rw [hp] at hc
        obtain ⟨er, ep, eq, ez, hne, rfl⟩ := hc
        have HN := Lib.hid hne
        clear hne
        have hq := (by have := HRc.out; rw [hp] at this; exact this)
        simp only [bind_bad, bind_ok] at hq
        subst hq
        try simp only [lastQ]
        go_wp2_with fail
        exact ⟨rfl, HMb.out.then (Mc.out.more (fun x hx => .inl (by simp at hx; simp [hx]))), er, ep, eq, ez, HN.out, rfl⟩
       | ok y rc =>
        rw [hp] at hc
        obtain ⟨pc, v, rfl, vs, S5, rfl, hx5, hS5⟩ := hc
        have hRd := HRc.out
        rw [hp] at hRd
        simp only [bind_ok] at hRd
        have HRd := Lib.hid hRd
        clear hRd HRc hp hnoE
        obtain ⟨A5, n5, c5, a5, b5', e5, rfl⟩ := hx5.form
        have hv : Value.agg (exC y (.slice A5 n5 c5) a5 b5' e5).toArray = .agg #[nv (hdK y), nv (hdV y).k, nv (hdV y).n, sv (hdV y).s, sv (hdN y), sv (hdC y), nv (hdO y : Nat), .slice A5 n5 c5, nv a5, nv b5', nv e5] := rfl
        rw [hv]
        clear hv
        go_wp2_with fail
        refine hK.out _ _ (fun b hb => mc.block b (by simp at hb; show b < wb.heap.size; omega) (by simp at hb ⊢; omega)) ?_
        clear hK K k4 k5 k7
        try simp only [Act.put, List.setIfInBounds_toArray, List.set_cons_zero, List.set_cons_succ]
        refine pcall rfl rfl (fun K hK => ?_)
        go_simp
        have hsc := mc.size
        have hsd : wb.drew.heap.size = wb.heap.size := rfl
        refine hK.out _ _ (fun b hb => Below.heap_alloc _ _ _ (by simp at hb; omega)) ?_
        clear hK K
        try simp only [Act.put, List.setIfInBounds_toArray, List.set_cons_zero, List.set_cons_succ]
        have hcy : (Obj.cells (exC y (.slice A5 n5 c5) a5 b5' e5).toArray 59) = Obj.cells #[nv (hdK y), nv (hdV y).k, nv (hdV y).n, sv (hdV y).s, sv (hdN y), sv (hdC y), nv (hdO y : Nat), .slice A5 n5 c5, nv a5, nv b5', nv e5] 59 := rfl
        rw [← hcy]
        clear hcy
        have Rd6 : Hid (Rd (wc.alloc (.cells (exC y (.slice A5 n5 c5) a5 b5' e5).toArray 59)) (wc.heap.size + 1) 11 (some ⟨wc.heap.size, 0, none⟩) 1 (exC y (.slice A5 n5 c5) a5 b5' e5)) := Lib.hid (Rd.made _ _ rfl rfl)
        have M6 : Hid (Mod [g] wb (wc.alloc (.cells (exC y (.slice A5 n5 c5) a5 b5' e5).toArray 59))) := Lib.hid (Mc.out.alloc _)
        have P6 := Lib.hid (pc.alloc (.cells (exC y (.slice A5 n5 c5) a5 b5' e5).toArray 59))
        have HX6 : Hid (ExR (wc.alloc (.cells (exC y (.slice A5 n5 c5) a5 b5' e5).toArray 59)) S5 y (exC y (.slice A5 n5 c5) a5 b5' e5)) := Lib.hid (ExR.keep (fun b hb => Below.heap_alloc _ _ _ (hS5 b hb).2) _ _ hx5)
        have HS5 : Hid (∀ b, S5 b → wb.heap.size ≤ b ∧ b < (wc.alloc (.cells (exC y (.slice A5 n5 c5) a5 b5' e5).toArray 59)).heap.size) := Lib.hid (fun b hb => by have := hS5 b hb; simp at this ⊢; omega)
        clear mc pc hx5 hS5 Mc
        generalize (wc.alloc (.cells (exC y (.slice A5 n5 c5) a5 b5' e5).toArray 59)) = w6 at *
        have hs6 := M6.out.size
        have HO6 := Lib.hid (own_mod HOb.out M6.out (fun j hj => by have := HOW.out j hj; simp; omega))
        have HT6 : Hid (Reps (ExR w6 S) acc xs) := Lib.hid (HTb.out.imp (fun x vs => ExR.keep (fun b hb => M6.out.block b (HSb.out b hb).2.1 (by have := HSb.out b hb; simp; omega)) x vs))
        have hS6 : ∀ b, S b → w.heap.size ≤ b ∧ b < w6.heap.size ∧ (Value.slice A k c).ownBlock ≠ some b := fun b hb => by have := HSb.out b hb; exact ⟨this.1, by omega, this.2.2⟩
        have hS56 : ∀ b, S5 b → w.heap.size ≤ b ∧ b < w6.heap.size ∧ (Value.slice A k c).ownBlock ≠ some b := fun b hb => by
         have := HS5.out b hb
         refine ⟨by omega, by omega, fun e => ?_⟩
         have := HOW.out b e
         omega
        have HS6 := Lib.hid hS6
        have HS56 := Lib.hid hS56
        have X6 := Lib.hid (M6.out.box Xb.out (by simp; omega))
        have HB6 := Lib.hid (HBb.out.mod M6.out (fun b hh => by have := hnb.out b hh; simp at this ⊢; omega))
        have HM6 : Hid (Mod [g, bx] w w6) := Lib.hid (HMb.out.then (M6.out.more (fun x hx => .inl (by simp at hx; simp [hx]))))
        clear hS6 hS56
        refine pcall rfl rfl (fun K hK => ?_)
        refine wapp4 (.tmp 43) (.tmp 46) exE rfl w.heap.size xs rfl HO6.out rfl (exC y (.slice A5 n5 c5) a5 b5' e5) Rd6.out (by simp [exC, Value.oneCell']) (by unfold maxLen; omega) (by omega) (by omega) rfl ?_
        intro A7 c7 w7 o7 g7 h7
        have hne7 : ∀ b, b < w.heap.size → some b ≠ (Value.slice A k c).ownBlock := fun b hb e => by have := HOW.out b e.symm; omega
        refine hK.out _ _ (fun b hb => g7.block b (by simp at hb; omega) (hne7 b (by simp at hb; omega))) ?_
        clear hK K
        try simp only [Act.put, List.setIfInBounds_toArray, List.set_cons_zero, List.set_cons_succ]
        have X7 := Lib.hid ((g7.block bx (by omega) (hne7 bx hbxl)).trans X6.out)
        have HB7 := Lib.hid (HB6.out.keep (fun b hh => g7.block b (by have := hnb.out b hh; omega) (hne7 b (hnb.out b hh).2)))
        have HP7 := Lib.hid (P6.out.keep (fun b hb => g7.block b (by omega) (hne7 b (by omega))))
        have HM7 : Hid (Mod [g, bx] w w7) := Lib.hid (HM6.out.grown g7 (fun j hj => .inr (HOW.out j hj).1))
        obtain ⟨hT7, hS7⟩ := app_keep ex_keep HT6.out HS6.out g7 h7
        obtain ⟨hY7, hS57⟩ := app_keep (l := [y]) ex_keep (Reps.one HX6.out) HS56.out g7 h7
        have HO7 := Lib.hid o7
        have HT7 := Lib.hid hT7
        have HY7 := Lib.hid hY7
        have HS7 := Lib.hid hS7
        have HS57 := Lib.hid hS57
        have hs7 := g7.size
        clear o7 g7 h7 hT7 hY7 hS7 hS57 HO6 HT6 HS6 HS56 X6 HB6 HM6 P6 M6 Rd6 HX6 HS5
        repeat (first | (refine sreadxP rfl rfl ?_; apply Exists.intro; apply And.intro; (· (intro W hW; go_simp; try (first | with_reducible rfl | (rw [if_neg (by omega)]; try with_reducible rfl)))); simp only [Act.put, List.setIfInBounds_toArray, List.set_cons_zero, List.set_cons_succ]) | (refine pskip rfl rfl ?_; simp only [Act.put, List.setIfInBounds_toArray, List.set_cons_zero, List.set_cons_succ]))
        refine pdone ?_
        refine last_step rfl (fun K hK => ?_)
        obtain ⟨⟨⟨⟨y0, y1⟩, y2, y3⟩, ⟨y4, y5⟩, y6, y7⟩, ⟨y8, y9⟩, y10⟩ := cells11 X7.out
        obtain ⟨⟨⟨⟨fr0, fr1⟩, fr2, fr3⟩, ⟨fr4, fr5⟩, fr6, fr7⟩, ⟨fr8, fr9⟩, fr10⟩ := frozen11 X7.out
        obtain ⟨⟨c4, c5x⟩, c6, c7x⟩ := HB7.out.cells
        go_simp
        refine hK.out _ _ ?_
        clear hK K
        clear y0 y1 y2 y3 y4 y5 y6 y7 y8 y9 y10 fr0 fr1 fr2 fr3 fr4 fr5 fr6 fr7 fr8 fr9 fr10
        clear c4 c5x c6 c7x
        have X8 : Hid ((w7.setCell ⟨bx, 7, none⟩ (.slice A7 (k + 1) c7)).heap[bx]? = some (.cells #[nv kind, nv 0, nv 0, sv [], sv nm, sv cl, nv 0, .slice A7 (k + 1) c7, nv p, nv q, nv z] 59 (0, 0))) := Lib.hid (heap_set' X7.out _ 7 rfl)
        have hm8 : Mod [bx] w7 (w7.setCell ⟨bx, 7, none⟩ (.slice A7 (k + 1) c7)) := (Mod.refl _ _).set (.inl (by simp)) _
        have HO8 := Lib.hid (own_mod HO7.out hm8 (fun j hj => by have := (HO7.out.lt j hj).1; simp; omega))
        have HT8 : Hid (Reps (ExR (w7.setCell ⟨bx, 7, none⟩ (.slice A7 (k + 1) c7)) S) acc xs) := Lib.hid (HT7.out.imp (fun x vs => ExR.keep (fun b hb => hm8.block b (HS7.out b hb).2.1 (by have := HS7.out b hb; simp; omega)) x vs))
        have HY8 : Hid (Reps (ExR (w7.setCell ⟨bx, 7, none⟩ (.slice A7 (k + 1) c7)) S5) [y] (exC y (.slice A5 n5 c5) a5 b5' e5)) := Lib.hid (HY7.out.imp (fun x vs => ExR.keep (fun b hb => hm8.block b (HS57.out b hb).2.1 (by have := HS57.out b hb; simp; omega)) x vs))
        have hz8 : (w7.setCell ⟨bx, 7, none⟩ (.slice A7 (k + 1) c7)).heap.size = w7.heap.size := by simp
        have HP8 := Lib.hid (HP7.out.set (i := 7) hg1 (.slice A7 (k + 1) c7))
        have HM8 : Hid (Mod [g, bx] w (w7.setCell ⟨bx, 7, none⟩ (.slice A7 (k + 1) c7))) := Lib.hid (HM7.out.set (.inl (by simp)) _)
        generalize (w7.setCell ⟨bx, 7, none⟩ (.slice A7 (k + 1) c7)) = w9 at *
        clear hm8 X7 HO7 HT7 HY7 HP7 HM7 HB7
        have HT9 : Hid (Reps (ExR w9 fun b => S b ∨ S5 b) (acc ++ [y]) (xs ++ exC y (.slice A5 n5 c5) a5 b5' e5)) := Lib.hid (by
         have h1 := HT8.out
         obtain ⟨us, ys, e1, h2, h3⟩ := HY8.out
         have h3 : ys = [] := h3
         subst h3
         rw [List.append_nil] at e1
         rw [e1]
         exact reps_two ex_mono h1 h2)
        have HO9 := HO8
        clear HO8 HT8 HY8
        have HS9 : Hid (∀ b, (S b ∨ S5 b) → w.heap.size ≤ b ∧ b < w9.heap.size ∧ (Value.slice A7 (k + 1) c7).ownBlock ≠ some b) := Lib.hid (fun b hb => by
         rcases hb with hb | hb
         ·have := HS7.out b hb; exact ⟨this.1, by omega, this.2.2⟩
         ·have := HS57.out b hb; exact ⟨this.1, by omega, this.2.2⟩)
        clear HS7 HS57
        have HR9 : Hid ((pArgs f d (n - (k + 1)) (acc ++ [y]) rc).bind (fun es r => Res.ok (nm, cl, es) r) = RT) := Lib.hid (by rw [hm1]; exact HRd.out)
        go_wp2_with fail
        go_roundw
        case rel => exact ⟨k + 1, acc ++ [y], rc, A7, c7, _, fun b => S b ∨ S5 b, by go_num, by simp; omega, by omega, HR9, X8, HO9, HT9, HS9, HP8, HM8⟩
        case measure => simp [intOf]; omega
      ·have hMb : Mod [g] wr ((wa.alloc (.cells #[.bool true] 4)).drew) := (Ma.out.alloc _).drew
       have HPb : Hid (Ps ((wa.alloc (.cells #[.bool true] 4)).drew) g d ra) := Lib.hid ((HPa.out.alloc (.cells #[.bool true] 4)).next (Below.refl _ _).drew)
       obtain ⟨wb, hwb⟩ : ∃ wb, ((wa.alloc (.cells #[.bool true] 4)).drew) = wb := ⟨_, rfl⟩
       rw [hwb] at hMb HPb ⊢
       clear hwb
       have Mb := Lib.hid hMb
       have HMb : Hid (Mod [g, bx] w wb) := Lib.hid (HM.out.then (hMb.more (fun x hx => .inl (by simp at hx; simp [hx]))))
       have HBb := Lib.hid (HB.out.mod HMb.out (fun b hh => (hnb.out b hh).1))
       have Xb := Lib.hid (hMb.box HXr.out (by simp; omega))
       have hown : ∀ j, (Value.slice A k c).ownBlock = some j → w.heap.size ≤ j ∧ j < wr.heap.size := fun j hj => HO.out.lt j hj
       have HOb := Lib.hid (own_mod HO.out hMb (fun j hj => by have := hown j hj; simp; omega))
       have HTb : Hid (Reps (ExR wb S) acc xs) := Lib.hid (HT.out.imp (fun x vs => ExR.keep (fun b hb => hMb.block b (HSS.out b hb).2.1 (by have := HSS.out b hb; simp; omega)) x vs))
       have hsb := hMb.size
       have HSb : Hid (∀ b, S b → w.heap.size ≤ b ∧ b < wb.heap.size ∧ (Value.slice A k c).ownBlock ≠ some b) := Lib.hid (fun b hb => by have := HSS.out b hb; exact ⟨this.1, by omega, this.2.2⟩)
       have HOW := Lib.hid hown
       clear hMb hown HPa Ma HXr HO HT HSS HP HM HBr c4 c5 c6 c7 Mb
       have hsw : w.heap.size ≤ wb.heap.size := by omega
       go_wp2_with fail
       refine wp_region_last (l := [_, _, _, _, _, _, _, _, _, _, _]) [b4, b5, bx] (.read 0 (.read 1 (.read 2 (.read 3 (.read 4 (.read 6 (.two 5 7 (.call 7 (.call 8 (.read 9 (.read 10 .done)))) (.call 5 (.call 8 (.read 9 (.read 10 .done))))))))))) (by kernel_rfl) (by kernel_rfl) (by kernel_rfl) (fun _ _ d _ _ h => by cases d <;> exact h) ?_
       refine pwith (fun W hW => (show W.cell? ⟨b5, 0, none⟩ = some (.pointer (some ⟨bx, 0, none⟩)) from by rw [Lib.cell_of_heap ((hW b5 (by simp)).trans HBb.out.h5)]; rfl)) (fun k5 => ?_)
       refine pwith (fun W hW => (show W.cell? ⟨b4, 0, none⟩ = some (.pointer (some ⟨g, 0, none⟩)) from by rw [Lib.cell_of_heap ((hW b4 (by simp)).trans HBb.out.h4)]; rfl)) (fun k4 => ?_)
       refine pwith (fun W hW => (show W.cell? ⟨bx, 7, none⟩ = some (.slice A k c) from by rw [Lib.cell_of_heap ((hW bx (by simp)).trans Xb.out)]; rfl)) (fun k7 => ?_)
       repeat (first | (refine sreadxP rfl rfl ?_; apply Exists.intro; apply And.intro; (· (intro W hW; go_simp; try (first | with_reducible rfl | (rw [if_neg (by omega)]; try with_reducible rfl)))); simp only [Act.put, List.setIfInBounds_toArray, List.set_cons_zero, List.set_cons_succ]) | (refine pskip rfl rfl ?_; simp only [Act.put, List.setIfInBounds_toArray, List.set_cons_zero, List.set_cons_succ]))
       have hRc := HRb.out
       rw [bind_assoc] at hRc
       have hnoE := bind_no hRc HNO.out
       have HRc := Lib.hid hRc
       have hsd : wb.drew.heap.size = wb.heap.size := rfl
       clear hRc HRb k4 k5 k7
       refine ptwo rfl rfl rfl rfl ?_ ?_
       ·intro K hK
        go_simp
        refine (HE.out g d 0 ra wb.drew (HPb.out.next (Below.refl _ _).drew) hd hnoE).mono ?_; rintro e wc ⟨mc, hc⟩
        have Mc : Hid (Mod [g] wb wc) := Lib.hid ((Mod.refl _ _).drew.then mc)
        cases hp : pExpr f 0 d ra with
        | oof => exact absurd hp hnoE
        | bad =>
         rw [hp] at hc
         obtain ⟨er, ep, eq, ez, hne, rfl⟩ := hc
         have HN := Lib.hid hne
         clear hne
         have hq := (by have := HRc.out; rw [hp] at this; exact this)
         simp only [bind_bad, bind_ok] at hq
         subst hq
         try simp only [lastQ]
         go_wp2_with fail
         exact ⟨rfl, HMb.out.then (Mc.out.more (fun x hx => .inl (by simp at hx; simp [hx]))), er, ep, eq, ez, HN.out, rfl⟩
        | ok y rc =>
         rw [hp] at hc
         obtain ⟨pc, v, rfl, vs, S5, rfl, hx5, hS5⟩ := hc
         have hRd := HRc.out
         rw [hp] at hRd
         simp only [bind_ok] at hRd
         have HRd := Lib.hid hRd
         clear hRd HRc hp hnoE
         obtain ⟨A5, n5, c5, a5, b5', e5, rfl⟩ := hx5.form
         have hv : Value.agg (exC y (.slice A5 n5 c5) a5 b5' e5).toArray = .agg #[nv (hdK y), nv (hdV y).k, nv (hdV y).n, sv (hdV y).s, sv (hdN y), sv (hdC y), nv (hdO y : Nat), .slice A5 n5 c5, nv a5, nv b5', nv e5] := rfl
         rw [hv]
         clear hv
         go_wp2_with fail
         refine hK.out _ _ (fun b hb => mc.block b (by simp at hb; show b < wb.heap.size; omega) (by simp at hb ⊢; omega)) ?_
         clear hK K
         try simp only [Act.put, List.setIfInBounds_toArray, List.set_cons_zero, List.set_cons_succ]
         refine pcall rfl rfl (fun K hK => ?_)
         go_simp
         have hsc := mc.size
         refine hK.out _ _ (fun b hb => Below.heap_alloc _ _ _ (by simp at hb; omega)) ?_
         clear hK K
         try simp only [Act.put, List.setIfInBounds_toArray, List.set_cons_zero, List.set_cons_succ]
         have Rd6 : Hid (Rd (wc.alloc (.cells #[nv 0, nv 0, nv 0, sv [], sv [], sv [], nv 0, .slice none 0 0, nv 0, nv 0, nv 0] 59)) (wc.heap.size + 1) 11 (some ⟨wc.heap.size, 0, none⟩) 1 [nv 0, nv 0, nv 0, sv [], sv [], sv [], nv 0, .slice none 0 0, nv 0, nv 0, nv 0]) := Lib.hid (Rd.made _ [nv 0, nv 0, nv 0, sv [], sv [], sv [], nv 0, .slice none 0 0, nv 0, nv 0, nv 0] rfl rfl)
         have M6 : Hid (Mod [g] wb (wc.alloc (.cells #[nv 0, nv 0, nv 0, sv [], sv [], sv [], nv 0, .slice none 0 0, nv 0, nv 0, nv 0] 59))) := Lib.hid (Mc.out.alloc _)
         have P6 := Lib.hid (pc.alloc (.cells #[nv 0, nv 0, nv 0, sv [], sv [], sv [], nv 0, .slice none 0 0, nv 0, nv 0, nv 0] 59))
         have HX6 : Hid (ExR (wc.alloc (.cells #[nv 0, nv 0, nv 0, sv [], sv [], sv [], nv 0, .slice none 0 0, nv 0, nv 0, nv 0] 59)) S5 y (exC y (.slice A5 n5 c5) a5 b5' e5)) := Lib.hid (ExR.keep (fun b hb => Below.heap_alloc _ _ _ (hS5 b hb).2) _ _ hx5)
         have HS5 : Hid (∀ b, S5 b → wb.heap.size ≤ b ∧ b < (wc.alloc (.cells #[nv 0, nv 0, nv 0, sv [], sv [], sv [], nv 0, .slice none 0 0, nv 0, nv 0, nv 0] 59)).heap.size) := Lib.hid (fun b hb => by have := hS5 b hb; simp at this ⊢; omega)
         clear mc pc hx5 hS5 Mc
         generalize (wc.alloc (.cells #[nv 0, nv 0, nv 0, sv [], sv [], sv [], nv 0, .slice none 0 0, nv 0, nv 0, nv 0] 59)) = w6 at *
         have hs6 := M6.out.size
         have HO6 := Lib.hid (own_mod HOb.out M6.out (fun j hj => by have := HOW.out j hj; simp; omega))
         have HT6 : Hid (Reps (ExR w6 S) acc xs) := Lib.hid (HTb.out.imp (fun x vs => ExR.keep (fun b hb => M6.out.block b (HSb.out b hb).2.1 (by have := HSb.out b hb; simp; omega)) x vs))
         have hS6 : ∀ b, S b → w.heap.size ≤ b ∧ b < w6.heap.size ∧ (Value.slice A k c).ownBlock ≠ some b := fun b hb => by have := HSb.out b hb; exact ⟨this.1, by omega, this.2.2⟩
         have hS56 : ∀ b, S5 b → w.heap.size ≤ b ∧ b < w6.heap.size ∧ (Value.slice A k c).ownBlock ≠ some b := fun b hb => by
          have := HS5.out b hb
          refine ⟨by omega, by omega, fun e => ?_⟩
          have := HOW.out b e
          omega
         have HS6 := Lib.hid hS6
         have HS56 := Lib.hid hS56
         have X6 := Lib.hid (M6.out.box Xb.out (by simp; omega))
         have HB6 := Lib.hid (HBb.out.mod M6.out (fun b hh => by have := hnb.out b hh; simp at this ⊢; omega))
         have HM6 : Hid (Mod [g, bx] w w6) := Lib.hid (HMb.out.then (M6.out.more (fun x hx => .inl (by simp at hx; simp [hx]))))
         clear hS6 hS56
         refine pcall rfl rfl (fun K hK => ?_)
         refine wapp4 (.tmp 30) (.tmp 34) exE rfl w.heap.size xs rfl HO6.out rfl ([nv 0, nv 0, nv 0, sv [], sv [], sv [], nv 0, .slice none 0 0, nv 0, nv 0, nv 0]) Rd6.out (by simp [exC, Value.oneCell']) (by unfold maxLen; omega) (by omega) (by omega) rfl ?_
         intro A7 c7 w7 o7 g7 h7
         have hne7 : ∀ b, b < w.heap.size → some b ≠ (Value.slice A k c).ownBlock := fun b hb e => by have := HOW.out b e.symm; omega
         refine hK.out _ _ (fun b hb => g7.block b (by simp at hb; omega) (hne7 b (by simp at hb; omega))) ?_
         clear hK K
         try simp only [Act.put, List.setIfInBounds_toArray, List.set_cons_zero, List.set_cons_succ]
         have X7 := Lib.hid ((g7.block bx (by omega) (hne7 bx hbxl)).trans X6.out)
         have HB7 := Lib.hid (HB6.out.keep (fun b hh => g7.block b (by have := hnb.out b hh; omega) (hne7 b (hnb.out b hh).2)))
         have HP7 := Lib.hid (P6.out.keep (fun b hb => g7.block b (by omega) (hne7 b (by omega))))
         have HM7 : Hid (Mod [g, bx] w w7) := Lib.hid (HM6.out.grown g7 (fun j hj => .inr (HOW.out j hj).1))
         obtain ⟨hT7, hS7⟩ := app_keep ex_keep HT6.out HS6.out g7 h7
         obtain ⟨hY7, hS57⟩ := app_keep (l := [y]) ex_keep (Reps.one HX6.out) HS56.out g7 h7
         have HO7 := Lib.hid o7
         have HT7 := Lib.hid hT7
         have HY7 := Lib.hid hY7
         have HS7 := Lib.hid hS7
         have HS57 := Lib.hid hS57
         have hs7 := g7.size
         clear o7 g7 h7 hT7 hY7 hS7 hS57 HO6 HT6 HS6 HS56 X6 HB6 HM6 P6 M6 Rd6 HX6 HS5
         repeat (first | (refine sreadxP rfl rfl ?_; apply Exists.intro; apply And.intro; (· (intro W hW; go_simp; try (first | with_reducible rfl | (rw [if_neg (by omega)]; try with_reducible rfl)))); simp only [Act.put, List.setIfInBounds_toArray, List.set_cons_zero, List.set_cons_succ]) | (refine pskip rfl rfl ?_; simp only [Act.put, List.setIfInBounds_toArray, List.set_cons_zero, List.set_cons_succ]))
         refine pdone ?_
         refine last_step rfl (fun K hK => ?_)
         obtain ⟨⟨⟨⟨y0, y1⟩, y2, y3⟩, ⟨y4, y5⟩, y6, y7⟩, ⟨y8, y9⟩, y10⟩ := cells11 X7.out
         obtain ⟨⟨⟨⟨fr0, fr1⟩, fr2, fr3⟩, ⟨fr4, fr5⟩, fr6, fr7⟩, ⟨fr8, fr9⟩, fr10⟩ := frozen11 X7.out
         obtain ⟨⟨c4, c5x⟩, c6, c7x⟩ := HB7.out.cells
         go_simp
         refine hK.out _ _ ?_
         clear hK K
         clear y0 y1 y2 y3 y4 y5 y6 y7 y8 y9 y10 fr0 fr1 fr2 fr3 fr4 fr5 fr6 fr7 fr8 fr9 fr10
         clear c4 c5x c6 c7x
         have X8 : Hid ((w7.setCell ⟨bx, 7, none⟩ (.slice A7 (k + 1) c7)).heap[bx]? = some (.cells #[nv kind, nv 0, nv 0, sv [], sv nm, sv cl, nv 0, .slice A7 (k + 1) c7, nv p, nv q, nv z] 59 (0, 0))) := Lib.hid (heap_set' X7.out _ 7 rfl)
         have hm8 : Mod [bx] w7 (w7.setCell ⟨bx, 7, none⟩ (.slice A7 (k + 1) c7)) := (Mod.refl _ _).set (.inl (by simp)) _
         have HO8 := Lib.hid (own_mod HO7.out hm8 (fun j hj => by have := (HO7.out.lt j hj).1; simp; omega))
         have HT8 : Hid (Reps (ExR (w7.setCell ⟨bx, 7, none⟩ (.slice A7 (k + 1) c7)) S) acc xs) := Lib.hid (HT7.out.imp (fun x vs => ExR.keep (fun b hb => hm8.block b (HS7.out b hb).2.1 (by have := HS7.out b hb; simp; omega)) x vs))
         have HY8 : Hid (Reps (ExR (w7.setCell ⟨bx, 7, none⟩ (.slice A7 (k + 1) c7)) S5) [y] (exC y (.slice A5 n5 c5) a5 b5' e5)) := Lib.hid (HY7.out.imp (fun x vs => ExR.keep (fun b hb => hm8.block b (HS57.out b hb).2.1 (by have := HS57.out b hb; simp; omega)) x vs))
         have hz8 : (w7.setCell ⟨bx, 7, none⟩ (.slice A7 (k + 1) c7)).heap.size = w7.heap.size := by simp
         have HP8 := Lib.hid (HP7.out.set (i := 7) hg1 (.slice A7 (k + 1) c7))
         have HM8 : Hid (Mod [g, bx] w (w7.setCell ⟨bx, 7, none⟩ (.slice A7 (k + 1) c7))) := Lib.hid (HM7.out.set (.inl (by simp)) _)
         generalize (w7.setCell ⟨bx, 7, none⟩ (.slice A7 (k + 1) c7)) = w9 at *
         clear hm8 X7 HO7 HT7 HY7 HP7 HM7 HB7
         obtain ⟨g9, rfl, hg9a, hg9b⟩ := own_form HO8.out (by omega)
         have hxl := HOb.out.1
         obtain ⟨⟨⟨⟨y0, y1⟩, y2, y3⟩, ⟨y4, y5⟩, y6, y7⟩, ⟨y8, y9⟩, y10⟩ := own_cells11 HO8.out hxl
         obtain ⟨⟨⟨⟨fr0, fr1⟩, fr2, fr3⟩, ⟨fr4, fr5⟩, fr6, fr7⟩, ⟨fr8, fr9⟩, fr10⟩ := own_frozen11 HO8.out (k * 11)
         have HXL := Lib.hid hxl
         clear hxl
         go_wp2_with fail
         clear y0 y1 y2 y3 y4 y5 y6 y7 y8 y9 y10 fr0 fr1 fr2 fr3 fr4 fr5 fr6 fr7 fr8 fr9 fr10
         obtain ⟨w10, hw10⟩ : ∃ w10, w10 = put11 w9 g9 (k * 11) (nv (hdK y)) (nv (hdV y).k) (nv (hdV y).n) (sv (hdV y).s) (sv (hdN y)) (sv (hdC y)) (nv (hdO y : Nat)) (.slice A5 n5 c5) (nv a5) (nv b5') (nv e5) := ⟨_, rfl⟩
         have hm10 : Mod [g9] w9 w10 := by rw [hw10]; exact put11_mod
         have hz10 : w10.heap.size = w9.heap.size := by rw [hw10]; exact put11_size
         have HO10 : Hid (w10.ownsRow w.heap.size 59 11 (.slice (some ⟨g9, 0, none⟩) (k + 1) c7) (k + 1) (xs ++ exC y (.slice A5 n5 c5) a5 b5' e5)) := Lib.hid (by rw [hw10]; exact own_put11 HO8.out HXL.out _ _ _ _ _ _ _ _ _ _ _)
         have X10 := Lib.hid (hm10.box X8.out (by simp; omega))
         have hq : ∀ b, (Value.slice (some ⟨g9, 0, none⟩) (k + 1) c7).ownBlock ≠ some b → b ∉ [g9] := fun b hb hx => by simp at hx; exact hb (by rw [hx]; rfl)
         have HT10 : Hid (Reps (ExR w10 S) acc xs) := Lib.hid (HT8.out.imp (fun x vs => ExR.keep (fun b hb => hm10.block b (by have := HS7.out b hb; omega) (hq b (HS7.out b hb).2.2)) x vs))
         have HY10 : Hid (Reps (ExR w10 S5) [y] (exC y (.slice A5 n5 c5) a5 b5' e5)) := Lib.hid (HY8.out.imp (fun x vs => ExR.keep (fun b hb => hm10.block b (by have := HS57.out b hb; omega) (hq b (HS57.out b hb).2.2)) x vs))
         have HP10 := Lib.hid (HP8.out.mod hm10 (fun x hx => by simp at hx; omega))
         have HM10 : Hid (Mod [g, bx] w w10) := Lib.hid (HM8.out.trans hm10 (fun x hx => .inr (by simp at hx; omega)))
         have HS10 : Hid (∀ b, (S b ∨ S5 b) → w.heap.size ≤ b ∧ b < w10.heap.size ∧ (Value.slice (some ⟨g9, 0, none⟩) (k + 1) c7).ownBlock ≠ some b) := Lib.hid (fun b hb => by
          rcases hb with hb | hb
          ·have := HS7.out b hb; exact ⟨this.1, by omega, this.2.2⟩
          ·have := HS57.out b hb; exact ⟨this.1, by omega, this.2.2⟩)
         have HT11 : Hid (Reps (ExR w10 fun b => S b ∨ S5 b) (acc ++ [y]) (xs ++ exC y (.slice A5 n5 c5) a5 b5' e5)) := Lib.hid (by
          have h1 := HT10.out
          obtain ⟨us, ys, e1, h2, h3⟩ := HY10.out
          have h3 : ys = [] := h3
          subst h3
          rw [List.append_nil] at e1
          rw [e1]
          exact reps_two ex_mono h1 h2)
         have HR9 : Hid ((pArgs f d (n - (k + 1)) (acc ++ [y]) rc).bind (fun es r => Res.ok (nm, cl, es) r) = RT) := Lib.hid (by rw [hm1]; exact HRd.out)
         unfold put11 nv sv at hw10
         rw [← hw10]
         clear hw10 HS7 HS57 HT10 HY10 HT8 HY8 HO8 X8 HP8 HM8 hm10 hq
         go_roundw
         case rel => exact ⟨k + 1, acc ++ [y], rc, some ⟨g9, 0, none⟩, c7, _, fun b => S b ∨ S5 b, by go_num, by simp; omega, by omega, HR9, X10, HO10, HT11, HS10, HP10, HM10⟩
         case measure => simp [intOf]; omega
       ·intro K hK
        go_simp
        refine hK.out _ _ (fun b hb => Below.heap_alloc _ _ _ (by simp at hb; show b < wb.heap.size; omega)) ?_
        clear hK K
        try simp only [Act.put, List.setIfInBounds_toArray, List.set_cons_zero, List.set_cons_succ]
        have hMz : Mod [g] wb (wb.alloc (.cells #[nv 0, nv 0, nv 0, sv [], sv [], sv [], nv 0, .slice none 0 0, nv 0, nv 0, nv 0] 59)).drew := ((Mod.refl _ _).alloc _).drew
        have hZz : (wb.alloc (.cells #[nv 0, nv 0, nv 0, sv [], sv [], sv [], nv 0, .slice none 0 0, nv 0, nv 0, nv 0] 59)).drew.heap[wb.heap.size]? = some (.cells #[nv 0, nv 0, nv 0, sv [], sv [], sv [], nv 0, .slice none 0 0, nv 0, nv 0, nv 0] 59 (0, 0)) := alloc_at rfl
        have hPz := (HPb.out.alloc (.cells #[nv 0, nv 0, nv 0, sv [], sv [], sv [], nv 0, .slice none 0 0, nv 0, nv 0, nv 0] 59)).next (Below.refl _ _).drew
        have hsz : (wb.alloc (.cells #[nv 0, nv 0, nv 0, sv [], sv [], sv [], nv 0, .slice none 0 0, nv 0, nv 0, nv 0] 59)).drew.heap.size = wb.heap.size + 1 := by show (wb.alloc _).heap.size = _; simp
        obtain ⟨wz, hwz⟩ : ∃ wz, (wb.alloc (.cells #[nv 0, nv 0, nv 0, sv [], sv [], sv [], nv 0, .slice none 0 0, nv 0, nv 0, nv 0] 59)).drew = wz := ⟨_, rfl⟩
        rw [hwz] at hMz hZz hPz hsz ⊢
        clear hwz
        have HMz := Lib.hid hMz
        have HZz := Lib.hid hZz
        have HPz := Lib.hid hPz
        clear hMz hZz hPz
        refine pcall rfl rfl (fun K hK => ?_)
        go_simp
        refine (HE.out g d 0 ra wz HPz.out hd hnoE).mono ?_; rintro e wc ⟨mc, hc⟩
        cases hp : pExpr f 0 d ra with
        | oof => exact absurd hp hnoE
        | bad =>
         rw [hp] at hc
         obtain ⟨er, ep, eq, ez, hne, rfl⟩ := hc
         have HN := Lib.hid hne
         clear hne
         have hq := (by have := HRc.out; rw [hp] at this; exact this)
         simp only [bind_bad, bind_ok] at hq
         subst hq
         try simp only [lastQ]
         go_wp2_with fail
         exact ⟨rfl, HMb.out.then ((HMz.out.then mc).more (fun x hx => .inl (by simp at hx; simp [hx]))), er, ep, eq, ez, HN.out, rfl⟩
        | ok y rc =>
         rw [hp] at hc
         obtain ⟨pc, v, rfl, vs, S5, rfl, hx5, hS5⟩ := hc
         have hRd := HRc.out
         rw [hp] at hRd
         simp only [bind_ok] at hRd
         have HRd := Lib.hid hRd
         clear hRd HRc hp hnoE
         obtain ⟨A5, n5, c5, a5, b5', e5, rfl⟩ := hx5.form
         have hv : Value.agg (exC y (.slice A5 n5 c5) a5 b5' e5).toArray = .agg #[nv (hdK y), nv (hdV y).k, nv (hdV y).n, sv (hdV y).s, sv (hdN y), sv (hdC y), nv (hdO y : Nat), .slice A5 n5 c5, nv a5, nv b5', nv e5] := rfl
         rw [hv]
         clear hv
         go_wp2_with fail
         refine hK.out _ _ (fun b hb => mc.block b (by simp at hb; omega) (by simp at hb ⊢; omega)) ?_
         clear hK K
         try simp only [Act.put, List.setIfInBounds_toArray, List.set_cons_zero, List.set_cons_succ]
         have Rd6 : Hid (Rd wc (wb.heap.size + 1) 11 (some ⟨wb.heap.size, 0, none⟩) 1 [nv 0, nv 0, nv 0, sv [], sv [], sv [], nv 0, .slice none 0 0, nv 0, nv 0, nv 0]) := Lib.hid ((Row.of_block (S := fun b => b = wb.heap.size) (n := 1) (c := 1) (xs := [nv 0, nv 0, nv 0, sv [], sv [], sv [], nv 0, .slice none 0 0, nv 0, nv 0, nv 0]) (mc.box HZz.out (by simp; omega)) rfl rfl (by omega) (by omega)).rd (fun b hb => by omega))
         have M6 : Hid (Mod [g] wb wc) := Lib.hid (HMz.out.then mc)
         have P6 := Lib.hid pc
         have HX6 := Lib.hid hx5
         have HS5 : Hid (∀ b, S5 b → wb.heap.size ≤ b ∧ b < wc.heap.size) := Lib.hid (fun b hb => by have := hS5 b hb; omega)
         clear mc pc hx5 hS5 HMz HZz HPz hsz
         obtain ⟨w6, hw6⟩ : ∃ w6, wc = w6 := ⟨_, rfl⟩
         rw [hw6] at Rd6 M6 P6 HX6 HS5 ⊢
         clear hw6
         have hs6 := M6.out.size
         have HO6 := Lib.hid (own_mod HOb.out M6.out (fun j hj => by have := HOW.out j hj; simp; omega))
         have HT6 : Hid (Reps (ExR w6 S) acc xs) := Lib.hid (HTb.out.imp (fun x vs => ExR.keep (fun b hb => M6.out.block b (HSb.out b hb).2.1 (by have := HSb.out b hb; simp; omega)) x vs))
         have hS6 : ∀ b, S b → w.heap.size ≤ b ∧ b < w6.heap.size ∧ (Value.slice A k c).ownBlock ≠ some b := fun b hb => by have := HSb.out b hb; exact ⟨this.1, by omega, this.2.2⟩
         have hS56 : ∀ b, S5 b → w.heap.size ≤ b ∧ b < w6.heap.size ∧ (Value.slice A k c).ownBlock ≠ some b := fun b hb => by
          have := HS5.out b hb
          refine ⟨by omega, by omega, fun e => ?_⟩
          have := HOW.out b e
          omega
         have HS6 := Lib.hid hS6
         have HS56 := Lib.hid hS56
         have X6 := Lib.hid (M6.out.box Xb.out (by simp; omega))
         have HB6 := Lib.hid (HBb.out.mod M6.out (fun b hh => by have := hnb.out b hh; simp at this ⊢; omega))
         have HM6 : Hid (Mod [g, bx] w w6) := Lib.hid (HMb.out.then (M6.out.more (fun x hx => .inl (by simp at hx; simp [hx]))))
         clear hS6 hS56
         refine pcall rfl rfl (fun K hK => ?_)
         refine wapp4 (.tmp 30) (.tmp 34) exE rfl w.heap.size xs rfl HO6.out rfl ([nv 0, nv 0, nv 0, sv [], sv [], sv [], nv 0, .slice none 0 0, nv 0, nv 0, nv 0]) Rd6.out (by simp [exC, Value.oneCell']) (by unfold maxLen; omega) (by omega) (by omega) rfl ?_
         intro A7 c7 w7 o7 g7 h7
         have hne7 : ∀ b, b < w.heap.size → some b ≠ (Value.slice A k c).ownBlock := fun b hb e => by have := HOW.out b e.symm; omega
         refine hK.out _ _ (fun b hb => g7.block b (by simp at hb; omega) (hne7 b (by simp at hb; omega))) ?_
         clear hK K
         try simp only [Act.put, List.setIfInBounds_toArray, List.set_cons_zero, List.set_cons_succ]
         have X7 := Lib.hid ((g7.block bx (by omega) (hne7 bx hbxl)).trans X6.out)
         have HB7 := Lib.hid (HB6.out.keep (fun b hh => g7.block b (by have := hnb.out b hh; omega) (hne7 b (hnb.out b hh).2)))
         have HP7 := Lib.hid (P6.out.keep (fun b hb => g7.block b (by omega) (hne7 b (by omega))))
         have HM7 : Hid (Mod [g, bx] w w7) := Lib.hid (HM6.out.grown g7 (fun j hj => .inr (HOW.out j hj).1))
         obtain ⟨hT7, hS7⟩ := app_keep ex_keep HT6.out HS6.out g7 h7
         obtain ⟨hY7, hS57⟩ := app_keep (l := [y]) ex_keep (Reps.one HX6.out) HS56.out g7 h7
         have HO7 := Lib.hid o7
         have HT7 := Lib.hid hT7
         have HY7 := Lib.hid hY7
         have HS7 := Lib.hid hS7
         have HS57 := Lib.hid hS57
         have hs7 := g7.size
         clear o7 g7 h7 hT7 hY7 hS7 hS57 HO6 HT6 HS6 HS56 X6 HB6 HM6 P6 M6 Rd6 HX6 HS5
         repeat (first | (refine sreadxP rfl rfl ?_; apply Exists.intro; apply And.intro; (· (intro W hW; go_simp; try (first | with_reducible rfl | (rw [if_neg (by omega)]; try with_reducible rfl)))); simp only [Act.put, List.setIfInBounds_toArray, List.set_cons_zero, List.set_cons_succ]) | (refine pskip rfl rfl ?_; simp only [Act.put, List.setIfInBounds_toArray, List.set_cons_zero, List.set_cons_succ]))
         refine pdone ?_
         refine last_step rfl (fun K hK => ?_)
         obtain ⟨⟨⟨⟨y0, y1⟩, y2, y3⟩, ⟨y4, y5⟩, y6, y7⟩, ⟨y8, y9⟩, y10⟩ := cells11 X7.out
         obtain ⟨⟨⟨⟨fr0, fr1⟩, fr2, fr3⟩, ⟨fr4, fr5⟩, fr6, fr7⟩, ⟨fr8, fr9⟩, fr10⟩ := frozen11 X7.out
         obtain ⟨⟨c4, c5x⟩, c6, c7x⟩ := HB7.out.cells
         go_simp
         refine hK.out _ _ ?_
         clear hK K
         clear y0 y1 y2 y3 y4 y5 y6 y7 y8 y9 y10 fr0 fr1 fr2 fr3 fr4 fr5 fr6 fr7 fr8 fr9 fr10
         clear c4 c5x c6 c7x
         have X8 : Hid ((w7.setCell ⟨bx, 7, none⟩ (.slice A7 (k + 1) c7)).heap[bx]? = some (.cells #[nv kind, nv 0, nv 0, sv [], sv nm, sv cl, nv 0, .slice A7 (k + 1) c7, nv p, nv q, nv z] 59 (0, 0))) := Lib.hid (heap_set' X7.out _ 7 rfl)
         have hm8 : Mod [bx] w7 (w7.setCell ⟨bx, 7, none⟩ (.slice A7 (k + 1) c7)) := (Mod.refl _ _).set (.inl (by simp)) _
         have HO8 := Lib.hid (own_mod HO7.out hm8 (fun j hj => by have := (HO7.out.lt j hj).1; simp; omega))
         have HT8 : Hid (Reps (ExR (w7.setCell ⟨bx, 7, none⟩ (.slice A7 (k + 1) c7)) S) acc xs) := Lib.hid (HT7.out.imp (fun x vs => ExR.keep (fun b hb => hm8.block b (HS7.out b hb).2.1 (by have := HS7.out b hb; simp; omega)) x vs))
         have HY8 : Hid (Reps (ExR (w7.setCell ⟨bx, 7, none⟩ (.slice A7 (k + 1) c7)) S5) [y] (exC y (.slice A5 n5 c5) a5 b5' e5)) := Lib.hid (HY7.out.imp (fun x vs => ExR.keep (fun b hb => hm8.block b (HS57.out b hb).2.1 (by have := HS57.out b hb; simp; omega)) x vs))
         have hz8 : (w7.setCell ⟨bx, 7, none⟩ (.slice A7 (k + 1) c7)).heap.size = w7.heap.size := by simp
         have HP8 := Lib.hid (HP7.out.set (i := 7) hg1 (.slice A7 (k + 1) c7))
         have HM8 : Hid (Mod [g, bx] w (w7.setCell ⟨bx, 7, none⟩ (.slice A7 (k + 1) c7))) := Lib.hid (HM7.out.set (.inl (by simp)) _)
         generalize (w7.setCell ⟨bx, 7, none⟩ (.slice A7 (k + 1) c7)) = w9 at *
         clear hm8 X7 HO7 HT7 HY7 HP7 HM7 HB7
         obtain ⟨g9, rfl, hg9a, hg9b⟩ := own_form HO8.out (by omega)
         have hxl := HOb.out.1
         obtain ⟨⟨⟨⟨y0, y1⟩, y2, y3⟩, ⟨y4, y5⟩, y6, y7⟩, ⟨y8, y9⟩, y10⟩ := own_cells11 HO8.out hxl
         obtain ⟨⟨⟨⟨fr0, fr1⟩, fr2, fr3⟩, ⟨fr4, fr5⟩, fr6, fr7⟩, ⟨fr8, fr9⟩, fr10⟩ := own_frozen11 HO8.out (k * 11)
         have HXL := Lib.hid hxl
         clear hxl
         go_wp2_with fail
         clear y0 y1 y2 y3 y4 y5 y6 y7 y8 y9 y10 fr0 fr1 fr2 fr3 fr4 fr5 fr6 fr7 fr8 fr9 fr10
         obtain ⟨w10, hw10⟩ : ∃ w10, w10 = put11 w9 g9 (k * 11) (nv (hdK y)) (nv (hdV y).k) (nv (hdV y).n) (sv (hdV y).s) (sv (hdN y)) (sv (hdC y)) (nv (hdO y : Nat)) (.slice A5 n5 c5) (nv a5) (nv b5') (nv e5) := ⟨_, rfl⟩
         have hm10 : Mod [g9] w9 w10 := by rw [hw10]; exact put11_mod
         have hz10 : w10.heap.size = w9.heap.size := by rw [hw10]; exact put11_size
         have HO10 : Hid (w10.ownsRow w.heap.size 59 11 (.slice (some ⟨g9, 0, none⟩) (k + 1) c7) (k + 1) (xs ++ exC y (.slice A5 n5 c5) a5 b5' e5)) := Lib.hid (by rw [hw10]; exact own_put11 HO8.out HXL.out _ _ _ _ _ _ _ _ _ _ _)
         have X10 := Lib.hid (hm10.box X8.out (by simp; omega))
         have hq : ∀ b, (Value.slice (some ⟨g9, 0, none⟩) (k + 1) c7).ownBlock ≠ some b → b ∉ [g9] := fun b hb hx => by simp at hx; exact hb (by rw [hx]; rfl)
         have HT10 : Hid (Reps (ExR w10 S) acc xs) := Lib.hid (HT8.out.imp (fun x vs => ExR.keep (fun b hb => hm10.block b (by have := HS7.out b hb; omega) (hq b (HS7.out b hb).2.2)) x vs))
         have HY10 : Hid (Reps (ExR w10 S5) [y] (exC y (.slice A5 n5 c5) a5 b5' e5)) := Lib.hid (HY8.out.imp (fun x vs => ExR.keep (fun b hb => hm10.block b (by have := HS57.out b hb; omega) (hq b (HS57.out b hb).2.2)) x vs))
         have HP10 := Lib.hid (HP8.out.mod hm10 (fun x hx => by simp at hx; omega))
         have HM10 : Hid (Mod [g, bx] w w10) := Lib.hid (HM8.out.trans hm10 (fun x hx => .inr (by simp at hx; omega)))
         have HS10 : Hid (∀ b, (S b ∨ S5 b) → w.heap.size ≤ b ∧ b < w10.heap.size ∧ (Value.slice (some ⟨g9, 0, none⟩) (k + 1) c7).ownBlock ≠ some b) := Lib.hid (fun b hb => by
          rcases hb with hb | hb
          ·have := HS7.out b hb; exact ⟨this.1, by omega, this.2.2⟩
          ·have := HS57.out b hb; exact ⟨this.1, by omega, this.2.2⟩)
         have HT11 : Hid (Reps (ExR w10 fun b => S b ∨ S5 b) (acc ++ [y]) (xs ++ exC y (.slice A5 n5 c5) a5 b5' e5)) := Lib.hid (by
          have h1 := HT10.out
          obtain ⟨us, ys, e1, h2, h3⟩ := HY10.out
          have h3 : ys = [] := h3
          subst h3
          rw [List.append_nil] at e1
          rw [e1]
          exact reps_two ex_mono h1 h2)
         have HR9 : Hid ((pArgs f d (n - (k + 1)) (acc ++ [y]) rc).bind (fun es r => Res.ok (nm, cl, es) r) = RT) := Lib.hid (by rw [hm1]; exact HRd.out)
         unfold put11 nv sv at hw10
         rw [← hw10]
         clear hw10 HS7 HS57 HT10 HY10 HT8 HY8 HO8 X8 HP8 HM8 hm10 hq
         go_roundw
         case rel => exact ⟨k + 1, acc ++ [y], rc, some ⟨g9, 0, none⟩, c7, _, fun b => S b ∨ S5 b, by go_num, by simp; omega, by omega, HR9, X10, HO10, HT11, HS10, HP10, HM10⟩
         case measure => simp [intOf]; omega
    ·obtain rfl : k = n := by omega
     have hR1 := HR.out
     rw [Nat.sub_self, pArgs] at hR1
     simp only [bind_ok] at hR1
     subst hR1
     have d2 : decide (k < k) = false := by simp
     go_wp2_with fail
     go_end0
     refine ⟨HM.out, HP.out, _, rfl, rfl, A, c, xs, S, ?_, ?_, HT.out, fun b hb => ⟨(HSS.out b hb).1, (HSS.out b hb).2.1⟩⟩
     ·rw [hacc]; exact HXr.out
     ·rw [hacc]; exact HO.out
end Go.Proofs.YtnbmpfdffoidaaaGreatDoor.Y
