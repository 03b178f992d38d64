/- RecordImages' walk: for every two images it returns true. -/
import Derived.Test.YtpkoijlbbfffiaaImgOpen
import Derived.Test.YtpkoijlbbfffiaaImgSame
namespace Go.Proofs.Ytpkoijlbbfffiaa.recordImages
open Go.RowKit O V R

set_option maxRecDepth 100000 in
set_option maxHeartbeats 4000000 in
theorem walk (v0 : Value) (m : Img) (v1 : Value) (m' : Img) (w : World) (h0 : IsImg w v0 m) (h1 : IsImg w v1 m') :
    Calls Try.prog 13 #[v0, v1] w fun e w' => e = .returned (.bool true) ∧ Below w.heap.size w w' := by
  obtain ⟨s, rfl, hr⟩ := h0
  obtain ⟨s', rfl, hr'⟩ := h1
  have HR := Lib.hid hr
  have HR' := Lib.hid hr'
  clear hr hr'
  simp only [imv]
  have X0 : Hid (IBox w m s w.heap.size ((w.alloc (.cells #[.string ⟨m.text.toArray⟩, .slice s.r.A s.r.n s.r.c, .slice s.i.A s.i.n s.i.c, .slice s.o.A s.o.n s.o.c] 76)).alloc (.cells #[.string ⟨m'.text.toArray⟩, .slice s'.r.A s'.r.n s'.r.c, .slice s'.i.A s'.i.n s'.i.c, .slice s'.o.A s'.o.n s'.o.c] 76))) := Lib.hid ⟨alloc_old' (alloc_at rfl), ((Below.refl _ _).alloc (Nat.le_refl _) _).alloc (by simp) _⟩
  have Y0 : Hid (IBox w m' s' (w.heap.size + 1) ((w.alloc (.cells #[.string ⟨m.text.toArray⟩, .slice s.r.A s.r.n s.r.c, .slice s.i.A s.i.n s.i.c, .slice s.o.A s.o.n s.o.c] 76)).alloc (.cells #[.string ⟨m'.text.toArray⟩, .slice s'.r.A s'.r.n s'.r.c, .slice s'.i.A s'.i.n s'.i.c, .slice s'.o.A s'.o.n s'.o.c] 76))) := Lib.hid ⟨alloc_at (by simp), X0.out.2⟩
  go_enter Try.func13, Try.ntmps13
  go_wp2_with fail
  obtain ⟨W0, hW0⟩ : ∃ W0, ((w.alloc (.cells #[.string ⟨m.text.toArray⟩, .slice s.r.A s.r.n s.r.c, .slice s.i.A s.i.n s.i.c, .slice s.o.A s.o.n s.o.c] 76)).alloc (.cells #[.string ⟨m'.text.toArray⟩, .slice s'.r.A s'.r.n s'.r.c, .slice s'.i.A s'.i.n s'.i.c, .slice s'.o.A s'.o.n s'.o.c] 76)) = W0 := ⟨_, rfl⟩
  rw [hW0] at X0 Y0 ⊢
  clear hW0
  refine wp_region_sched [(0, true), (1, false), (2, true), (3, true), (4, true), (5, false), (6, true), (7, true), (8, true), (9, true), (10, true), (12, true), (13, true), (11, false), (14, false), (15, true), (16, true)] (by kernel_rfl) (by kernel_rfl) (fun _ _ d _ _ h => by cases d <;> exact h) ?_
  refine sbelow (w0 := W0) ((Below.refl _ _).drew) (fun B0 => ?_)
  refine swith (fun W hW => ((X0.out.next (bthen B0 hW.out)).cells)) (fun qx => ?_)
  refine swith (fun W hW => ((Y0.out.next (bthen B0 hW.out)).cells)) (fun qy => ?_)
  cases q1 : lightImg m
  · repeat (first | (refine sreadx rfl rfl ?_; apply Exists.intro; apply And.intro; (· (intro W hW; first | (go_simp; done) | (go_simp; with_reducible rfl) | (go_simp; rw [if_neg (by omega)]; done) | (go_simp; rw [if_neg (by omega)]; with_reducible rfl))); simp only [Act.put, List.setIfInBounds_toArray, List.set_cons_zero, List.set_cons_succ]) | (refine sskip rfl rfl ?_; simp only [Act.put, List.setIfInBounds_toArray, List.set_cons_zero, List.set_cons_succ]))
    refine scall rfl rfl (fun K hK => ?_)
    go_simp
    refine (lightImage_any m s _ (HR.out.next (X0.out.next B0).2)).mono ?_; rintro e w1 ⟨rfl, b1⟩; rw [q1]
    go_wp2_with fail
    refine hK.out _ _ (by exact b1) ?_
    clear hK K
    try simp only [Act.put, List.setIfInBounds_toArray, List.set_cons_zero, List.set_cons_succ]
    replace qx := fun (W : World) (hW : Grow w1 W) => qx W (Grow.trans (b1) hW)
    replace qy := fun (W : World) (hW : Grow w1 W) => qy W (Grow.trans (b1) hW)
    have B1 := bthen B0 b1
    repeat (first | (refine sreadx rfl rfl ?_; apply Exists.intro; apply And.intro; (· (intro W hW; first | (go_simp; done) | (go_simp; with_reducible rfl) | (go_simp; rw [if_neg (by omega)]; done) | (go_simp; rw [if_neg (by omega)]; with_reducible rfl))); simp only [Act.put, List.setIfInBounds_toArray, List.set_cons_zero, List.set_cons_succ]) | (refine sskip rfl rfl ?_; simp only [Act.put, List.setIfInBounds_toArray, List.set_cons_zero, List.set_cons_succ]))
    refine sdone ?_
    clear qx qy b1 B0
    have X1 := Lib.hid (X0.out.next B1)
    have Y1 := Lib.hid (Y0.out.next B1)
    clear B1 X0 Y0
    obtain ⟨⟨x0, x1⟩, x2, x3⟩ := X1.out.cells
    obtain ⟨⟨y0, y1⟩, y2, y3⟩ := Y1.out.cells
    go_wp2_with fail
    refine (lightImage_any m s _ (HR.out.next X1.out.2)).mono ?_; rintro e w2 ⟨rfl, b2⟩
    rw [q1]
    clear x0 x1 x2 x3 y0 y1 y2 y3
    have X2 := Lib.hid (X1.out.next b2)
    have Y2 := Lib.hid (Y1.out.next b2)
    clear b2 X1 Y1
    go_wp2_with fail
    refine (livesR_any _).mono ?_; rintro e wL ⟨rfl, bL⟩
    go_wp2_with fail
    go_ret
    exact ⟨rfl, (X2.out.next bL).2⟩
  cases q2 : lightImg m'
  · repeat (first | (refine sreadx rfl rfl ?_; apply Exists.intro; apply And.intro; (· (intro W hW; first | (go_simp; done) | (go_simp; with_reducible rfl) | (go_simp; rw [if_neg (by omega)]; done) | (go_simp; rw [if_neg (by omega)]; with_reducible rfl))); simp only [Act.put, List.setIfInBounds_toArray, List.set_cons_zero, List.set_cons_succ]) | (refine sskip rfl rfl ?_; simp only [Act.put, List.setIfInBounds_toArray, List.set_cons_zero, List.set_cons_succ]))
    refine scall rfl rfl (fun K hK => ?_)
    go_simp
    refine (lightImage_any m s _ (HR.out.next (X0.out.next B0).2)).mono ?_; rintro e w1 ⟨rfl, b1⟩; rw [q1]
    go_wp2_with fail
    refine hK.out _ _ (by exact b1) ?_
    clear hK K
    try simp only [Act.put, List.setIfInBounds_toArray, List.set_cons_zero, List.set_cons_succ]
    replace qx := fun (W : World) (hW : Grow w1 W) => qx W (Grow.trans (b1) hW)
    replace qy := fun (W : World) (hW : Grow w1 W) => qy W (Grow.trans (b1) hW)
    have B1 := bthen B0 b1
    repeat (first | (refine sreadx rfl rfl ?_; apply Exists.intro; apply And.intro; (· (intro W hW; first | (go_simp; done) | (go_simp; with_reducible rfl) | (go_simp; rw [if_neg (by omega)]; done) | (go_simp; rw [if_neg (by omega)]; with_reducible rfl))); simp only [Act.put, List.setIfInBounds_toArray, List.set_cons_zero, List.set_cons_succ]) | (refine sskip rfl rfl ?_; simp only [Act.put, List.setIfInBounds_toArray, List.set_cons_zero, List.set_cons_succ]))
    refine scall rfl rfl (fun K hK => ?_)
    go_simp
    refine (lightImage_any m' s' _ (HR'.out.next (X0.out.next B1).2)).mono ?_; rintro e w2 ⟨rfl, b2⟩; rw [q2]
    go_wp2_with fail
    refine hK.out _ _ (by exact b2) ?_
    clear hK K
    try simp only [Act.put, List.setIfInBounds_toArray, List.set_cons_zero, List.set_cons_succ]
    replace qx := fun (W : World) (hW : Grow w2 W) => qx W (Grow.trans (b2) hW)
    replace qy := fun (W : World) (hW : Grow w2 W) => qy W (Grow.trans (b2) hW)
    have B2 := bthen B1 b2
    repeat (first | (refine sreadx rfl rfl ?_; apply Exists.intro; apply And.intro; (· (intro W hW; first | (go_simp; done) | (go_simp; with_reducible rfl) | (go_simp; rw [if_neg (by omega)]; done) | (go_simp; rw [if_neg (by omega)]; with_reducible rfl))); simp only [Act.put, List.setIfInBounds_toArray, List.set_cons_zero, List.set_cons_succ]) | (refine sskip rfl rfl ?_; simp only [Act.put, List.setIfInBounds_toArray, List.set_cons_zero, List.set_cons_succ]))
    refine sdone ?_
    clear qx qy b1 b2 B0 B1
    have X2 := Lib.hid (X0.out.next B2)
    have Y2 := Lib.hid (Y0.out.next B2)
    clear B2 X0 Y0
    obtain ⟨⟨x0, x1⟩, x2, x3⟩ := X2.out.cells
    obtain ⟨⟨y0, y1⟩, y2, y3⟩ := Y2.out.cells
    go_wp2_with fail
    refine (lightImage_any m s _ (HR.out.next X2.out.2)).mono ?_; rintro e w3 ⟨rfl, b3⟩
    rw [q1]
    clear x0 x1 x2 x3 y0 y1 y2 y3
    have X3 := Lib.hid (X2.out.next b3)
    have Y3 := Lib.hid (Y2.out.next b3)
    clear b3 X2 Y2
    obtain ⟨⟨x0, x1⟩, x2, x3⟩ := X3.out.cells
    obtain ⟨⟨y0, y1⟩, y2, y3⟩ := Y3.out.cells
    go_wp2_with fail
    refine (lightImage_any m' s' _ (HR'.out.next X3.out.2)).mono ?_; rintro e w4 ⟨rfl, b4⟩
    rw [q2]
    clear x0 x1 x2 x3 y0 y1 y2 y3
    have X4 := Lib.hid (X3.out.next b4)
    have Y4 := Lib.hid (Y3.out.next b4)
    clear b4 X3 Y3
    go_wp2_with fail
    refine (livesR_any _).mono ?_; rintro e wL ⟨rfl, bL⟩
    go_wp2_with fail
    go_ret
    exact ⟨rfl, (X4.out.next bL).2⟩
  repeat (first | (refine sreadx rfl rfl ?_; apply Exists.intro; apply And.intro; (· (intro W hW; first | (go_simp; done) | (go_simp; with_reducible rfl) | (go_simp; rw [if_neg (by omega)]; done) | (go_simp; rw [if_neg (by omega)]; with_reducible rfl))); simp only [Act.put, List.setIfInBounds_toArray, List.set_cons_zero, List.set_cons_succ]) | (refine sskip rfl rfl ?_; simp only [Act.put, List.setIfInBounds_toArray, List.set_cons_zero, List.set_cons_succ]))
  refine scall rfl rfl (fun K hK => ?_)
  go_simp
  refine (lightImage_any m s _ (HR.out.next (X0.out.next B0).2)).mono ?_; rintro e w1 ⟨rfl, b1⟩; rw [q1]
  go_wp2_with fail
  refine hK.out _ _ (by exact b1) ?_
  clear hK K
  try simp only [Act.put, List.setIfInBounds_toArray, List.set_cons_zero, List.set_cons_succ]
  replace qx := fun (W : World) (hW : Grow w1 W) => qx W (Grow.trans (b1) hW)
  replace qy := fun (W : World) (hW : Grow w1 W) => qy W (Grow.trans (b1) hW)
  have B1 := bthen B0 b1
  repeat (first | (refine sreadx rfl rfl ?_; apply Exists.intro; apply And.intro; (· (intro W hW; first | (go_simp; done) | (go_simp; with_reducible rfl) | (go_simp; rw [if_neg (by omega)]; done) | (go_simp; rw [if_neg (by omega)]; with_reducible rfl))); simp only [Act.put, List.setIfInBounds_toArray, List.set_cons_zero, List.set_cons_succ]) | (refine sskip rfl rfl ?_; simp only [Act.put, List.setIfInBounds_toArray, List.set_cons_zero, List.set_cons_succ]))
  refine scall rfl rfl (fun K hK => ?_)
  go_simp
  refine (lightImage_any m' s' _ (HR'.out.next (X0.out.next B1).2)).mono ?_; rintro e w2 ⟨rfl, b2⟩; rw [q2]
  go_wp2_with fail
  refine hK.out _ _ (by exact b2) ?_
  clear hK K
  try simp only [Act.put, List.setIfInBounds_toArray, List.set_cons_zero, List.set_cons_succ]
  replace qx := fun (W : World) (hW : Grow w2 W) => qx W (Grow.trans (b2) hW)
  replace qy := fun (W : World) (hW : Grow w2 W) => qy W (Grow.trans (b2) hW)
  have B2 := bthen B1 b2
  repeat (first | (refine sreadx rfl rfl ?_; apply Exists.intro; apply And.intro; (· (intro W hW; first | (go_simp; done) | (go_simp; with_reducible rfl) | (go_simp; rw [if_neg (by omega)]; done) | (go_simp; rw [if_neg (by omega)]; with_reducible rfl))); simp only [Act.put, List.setIfInBounds_toArray, List.set_cons_zero, List.set_cons_succ]) | (refine sskip rfl rfl ?_; simp only [Act.put, List.setIfInBounds_toArray, List.set_cons_zero, List.set_cons_succ]))
  refine scall rfl rfl (fun K hK => ?_)
  go_simp
  refine (sameImage_any m m' s s' _ (HR.out.next (X0.out.next B2).2) (HR'.out.next (X0.out.next B2).2)).mono ?_; rintro e w3 ⟨rfl, b3⟩
  go_wp2_with fail
  refine hK.out _ _ (by exact b3) ?_
  clear hK K
  try simp only [Act.put, List.setIfInBounds_toArray, List.set_cons_zero, List.set_cons_succ]
  replace qx := fun (W : World) (hW : Grow w3 W) => qx W (Grow.trans (b3) hW)
  replace qy := fun (W : World) (hW : Grow w3 W) => qy W (Grow.trans (b3) hW)
  have B3 := bthen B2 b3
  repeat (first | (refine sreadx rfl rfl ?_; apply Exists.intro; apply And.intro; (· (intro W hW; first | (go_simp; done) | (go_simp; with_reducible rfl) | (go_simp; rw [if_neg (by omega)]; done) | (go_simp; rw [if_neg (by omega)]; with_reducible rfl))); simp only [Act.put, List.setIfInBounds_toArray, List.set_cons_zero, List.set_cons_succ]) | (refine sskip rfl rfl ?_; simp only [Act.put, List.setIfInBounds_toArray, List.set_cons_zero, List.set_cons_succ]))
  refine scall rfl rfl (fun K hK => ?_)
  go_simp
  refine (rsameImage_any m m' s s' _ (HR.out.next (X0.out.next B3).2) (HR'.out.next (X0.out.next B3).2)).mono ?_; rintro e w4 ⟨rfl, b4⟩
  go_wp2_with fail
  refine hK.out _ _ (by exact b4) ?_
  clear hK K
  try simp only [Act.put, List.setIfInBounds_toArray, List.set_cons_zero, List.set_cons_succ]
  have B4 := bthen B3 b4
  have qe : (sameM m m' != sameM m m') = false := by cases sameM m m' <;> rfl
  repeat (first | (refine sreadx rfl rfl ?_; apply Exists.intro; apply And.intro; (· (intro W hW; first | (go_simp; done) | (go_simp; with_reducible rfl) | (go_simp; rw [if_neg (by omega)]; done) | (go_simp; rw [if_neg (by omega)]; with_reducible rfl))); simp only [Act.put, List.setIfInBounds_toArray, List.set_cons_zero, List.set_cons_succ]) | (refine sskip rfl rfl ?_; simp only [Act.put, List.setIfInBounds_toArray, List.set_cons_zero, List.set_cons_succ]))
  refine sdone ?_
  clear qx qy b1 b2 b3 b4 B0 B1 B2 B3 qe
  have X4 := Lib.hid (X0.out.next B4)
  have Y4 := Lib.hid (Y0.out.next B4)
  clear B4 X0 Y0
  obtain ⟨⟨x0, x1⟩, x2, x3⟩ := X4.out.cells
  obtain ⟨⟨y0, y1⟩, y2, y3⟩ := Y4.out.cells
  go_wp2_with fail
  refine (rrightImage_any m s _ (HR.out.next X4.out.2) (light_shortM q1)).mono ?_; rintro e w5 ⟨rfl, b5⟩
  clear x0 x1 x2 x3 y0 y1 y2 y3
  have X5 := Lib.hid (X4.out.next b5)
  have Y5 := Lib.hid (Y4.out.next b5)
  clear b5 X4 Y4
  cases q3 : rightImg m
  · go_wp2_with fail
    refine (livesR_any _).mono ?_; rintro e wL ⟨rfl, bL⟩
    go_wp2_with fail
    go_ret
    exact ⟨rfl, (X5.out.next bL).2⟩
  have OK := Lib.hid (mok HR.out q1 q3)
  have O2 := Lib.hid (mok2 HR.out q1 q3)
  have hlen := putImg_len OK.out
  have hself : Hid (sameM m m = true) := Lib.hid (sameM_iff.2 rfl)
  clear q1 q2 q3
  obtain ⟨⟨x0, x1⟩, x2, x3⟩ := X5.out.cells
  obtain ⟨⟨y0, y1⟩, y2, y3⟩ := Y5.out.cells
  go_wp2_with fail
  refine (putImage_any m s _ (HR.out.next X5.out.2) OK.out).mono ?_; rintro e w6 ⟨A6, n6, c6, rfl, o6, b6⟩
  clear x0 x1 x2 x3 y0 y1 y2 y3
  have hn6 := own_len o6
  have RD6 := Lib.hid (Rd.of_own o6)
  have C6 := own_capG o6
  have X6 := Lib.hid (X5.out.next b6)
  have Y6 := Lib.hid (Y5.out.next b6)
  clear b6 X5 Y5
  have hn6' : n6 ≤ 1000000000000 := by omega
  clear o6 hn6 hlen
  go_wp2_with fail
  refine (getImage_back A6 n6 c6 m _ RD6.out hn6' C6 O2.out).mono ?_; rintro e w7 ⟨sx, rfl, rx, b7⟩
  have RX7 := Lib.hid rx
  have RD7 := Lib.hid (RD6.out.next b7)
  have X7 := Lib.hid (X6.out.next b7)
  have Y7 := Lib.hid (Y6.out.next b7)
  clear b7 X6 Y6
  clear rx RD6 C6 hn6'
  simp only [imv]
  have Z8 : Hid (IBox w7 m sx w7.heap.size (w7.alloc (.cells #[.string ⟨m.text.toArray⟩, .slice sx.r.A sx.r.n sx.r.c, .slice sx.i.A sx.i.n sx.i.c, .slice sx.o.A sx.o.n sx.o.c] 76))) := Lib.hid ⟨alloc_at rfl, (Below.refl _ _).alloc (Nat.le_refl _) _⟩
  have X8 := Lib.hid (X7.out.next Z8.out.2)
  have Y8 := Lib.hid (Y7.out.next Z8.out.2)
  have RX8 := Lib.hid (RX7.out.next Z8.out.2)
  have RD8 := Lib.hid (RD7.out.next Z8.out.2)
  go_wp2_with fail
  obtain ⟨w8, hw8⟩ : ∃ w8, (w7.alloc (.cells #[.string ⟨m.text.toArray⟩, .slice sx.r.A sx.r.n sx.r.c, .slice sx.i.A sx.i.n sx.i.c, .slice sx.o.A sx.o.n sx.o.c] 76)) = w8 := ⟨_, rfl⟩
  rw [hw8] at Z8 X8 Y8 RX8 RD8 ⊢
  clear hw8 X7 Y7 RX7 RD7
  refine wp_region_sched [(0, true), (1, true), (2, true), (3, false), (4, true), (5, true), (6, true), (7, true), (8, true), (9, true), (10, true), (11, true), (12, false), (13, true), (14, true), (15, false), (16, true), (17, true)] (by kernel_rfl) (by kernel_rfl) (fun _ _ d _ _ h => by cases d <;> exact h) ?_
  refine sbelow (w0 := w8) ((Below.refl _ _).drew) (fun B0 => ?_)
  refine swith (fun W hW => ((X8.out.next (bthen B0 hW.out)).cells)) (fun qx => ?_)
  refine swith (fun W hW => ((Z8.out.next (bthen B0 hW.out)).cells)) (fun qz => ?_)
  refine swith (fun W hW => (strq (c := c6) (RD8.out.next (bthen B0 hW.out)))) (fun qs => ?_)
  repeat (first | (refine sreadx rfl rfl ?_; apply Exists.intro; apply And.intro; (· (intro W hW; first | (go_simp; done) | (go_simp; with_reducible rfl) | (go_simp; rw [if_neg (by omega)]; done) | (go_simp; rw [if_neg (by omega)]; with_reducible rfl))); simp only [Act.put, List.setIfInBounds_toArray, List.set_cons_zero, List.set_cons_succ]) | (refine sskip rfl rfl ?_; simp only [Act.put, List.setIfInBounds_toArray, List.set_cons_zero, List.set_cons_succ]))
  refine scall rfl rfl (fun K hK => ?_)
  go_simp
  refine (rputImage_any m s _ (HR.out.next (X8.out.next B0).2) OK.out).mono ?_; rintro e v1 ⟨A2, n2, c2, rfl, o2, b1⟩
  go_wp2_with fail
  refine hK.out _ _ (by exact b1) ?_
  clear hK K
  try simp only [Act.put, List.setIfInBounds_toArray, List.set_cons_zero, List.set_cons_succ]
  replace qx := fun (W : World) (hW : Grow v1 W) => qx W (Grow.trans (b1) hW)
  replace qz := fun (W : World) (hW : Grow v1 W) => qz W (Grow.trans (b1) hW)
  replace qs := fun (W : World) (hW : Grow v1 W) => qs W (Grow.trans (b1) hW)
  refine swith (fun W hW => (strq (c := c2) ((Rd.of_own o2).next hW.out))) (fun qt => ?_)
  have B1 := bthen B0 b1
  repeat (first | (refine sreadx rfl rfl ?_; apply Exists.intro; apply And.intro; (· (intro W hW; first | (go_simp; done) | (go_simp; with_reducible rfl) | (go_simp; rw [if_neg (by omega)]; done) | (go_simp; rw [if_neg (by omega)]; with_reducible rfl))); simp only [Act.put, List.setIfInBounds_toArray, List.set_cons_zero, List.set_cons_succ]) | (refine sskip rfl rfl ?_; simp only [Act.put, List.setIfInBounds_toArray, List.set_cons_zero, List.set_cons_succ]))
  refine scall rfl rfl (fun K hK => ?_)
  go_simp
  refine (rsameImage_any m m sx s _ (RX8.out.next B1) (HR.out.next (X8.out.next B1).2)).mono ?_; rintro e v2 ⟨rfl, b2⟩; rw [hself.out]
  go_wp2_with fail
  refine hK.out _ _ (by exact b2) ?_
  clear hK K
  try simp only [Act.put, List.setIfInBounds_toArray, List.set_cons_zero, List.set_cons_succ]
  have B2 := bthen B1 b2
  repeat (first | (refine sreadx rfl rfl ?_; apply Exists.intro; apply And.intro; (· (intro W hW; first | (go_simp; done) | (go_simp; with_reducible rfl) | (go_simp; rw [if_neg (by omega)]; done) | (go_simp; rw [if_neg (by omega)]; with_reducible rfl))); simp only [Act.put, List.setIfInBounds_toArray, List.set_cons_zero, List.set_cons_succ]) | (refine sskip rfl rfl ?_; simp only [Act.put, List.setIfInBounds_toArray, List.set_cons_zero, List.set_cons_succ]))
  refine scall rfl rfl (fun K hK => ?_)
  go_simp
  refine (livesR_any _).mono ?_; rintro e v3 ⟨rfl, b3⟩
  go_wp2_with fail
  refine hK.out _ _ (by exact b3) ?_
  clear hK K
  try simp only [Act.put, List.setIfInBounds_toArray, List.set_cons_zero, List.set_cons_succ]
  repeat (first | (refine sreadx rfl rfl ?_; apply Exists.intro; apply And.intro; (· (intro W hW; first | (go_simp; done) | (go_simp; with_reducible rfl) | (go_simp; rw [if_neg (by omega)]; done) | (go_simp; rw [if_neg (by omega)]; with_reducible rfl))); simp only [Act.put, List.setIfInBounds_toArray, List.set_cons_zero, List.set_cons_succ]) | (refine sskip rfl rfl ?_; simp only [Act.put, List.setIfInBounds_toArray, List.set_cons_zero, List.set_cons_succ]))
  refine sdone ?_
  go_wp2_with fail
  go_ret
  exact ⟨rfl, (X8.out.next (bthen B2 b3)).2⟩
end Go.Proofs.Ytpkoijlbbfffiaa.recordImages
