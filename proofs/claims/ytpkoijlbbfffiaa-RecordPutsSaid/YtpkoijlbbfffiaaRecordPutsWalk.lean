/- RecordPuts' walk: for every two records it returns true. -/
import Derived.Test.YtpkoijlbbfffiaaRecOpen
import Derived.Test.YtpkoijlbbfffiaaRecSame
import Derived.Test.YtpkoijlbbfffiaaRecRef2
import Derived.Deep.DeepCutAuto
namespace Go.Proofs.Ytpkoijlbbfffiaa.recordPuts
open Go.RowKit O V R

theorem light_short {r : Rec} (h : lightRec r = true) : shortR r := by
  unfold lightRec lightH at h
  simp only [Bool.and_eq_true] at h
  obtain ⟨h1, h2, h3, _, h4⟩ := h
  have f : ∀ {l : List Val}, lightR l = true → ∀ v ∈ l, v.s.length ≤ 1000000000000 := fun hl v hv => by have := (lightR_all hl).2 v hv; omega
  refine ⟨?_, fun c hc => f (List.all_eq_true.1 h4 c hc)⟩
  unfold rowsOf
  intro l hl
  simp at hl
  rcases hl with rfl | rfl | rfl
  · exact f h1
  · exact f h2
  · exact f h3
theorem hrow_facts {w : World} {A : Option Addr} {n c : Nat} {l : List Chg} (h : HRow w A n c l) : ∀ x ∈ l, (∀ v ∈ x.row, VOk v) ∧ -9223372036854775808 ≤ x.key ∧ x.key ≤ 9223372036854775807 := by
  intro x hx
  obtain ⟨k, hk, rfl⟩ := List.getElem_of_mem hx
  obtain ⟨b, off, s, _, _, hv, ho, _⟩ := h.at_ hk
  exact ⟨hv.oks, ho.2⟩
theorem rok {w : World} {r : Rec} {s : RS} (h : RecAt w r s) (hl : lightRec r = true) (hr : rightRec r = true) : ROk r := by
  rw [rightRec_eq] at hr
  unfold lightRec lightH at hl
  simp only [Bool.and_eq_true, decide_eq_true_eq] at hl hr
  obtain ⟨h1, h2, h3, h4, h5⟩ := hl
  obtain ⟨r1, r2, r3, r4, r5⟩ := hr
  refine ⟨?_, h1, h2, h3, h4, fun x hx => ?_⟩
  · simp [okN] at r1; omega
  · have g := hrow_facts h.c x hx
    have hx1 := List.all_eq_true.1 h5 x hx
    have hx2 := List.all_eq_true.1 r5 x hx
    rw [okG_eq x _ rfl] at hx2
    simp [okN] at hx2
    exact ⟨hx1, hx2.1.1, hx2.1.2, g.2.1, g.2.2, g.1⟩
set_option maxRecDepth 100000 in
set_option maxHeartbeats 4000000 in
theorem walk (v0 : Value) (r : Rec) (v1 : Value) (r' : Rec) (w : World) (h0 : IsRec w v0 r) (h1 : IsRec w v1 r') :
    Calls Try.prog 4 #[v0, v1] w fun e w' => e = .returned (.bool true) ∧ Below w.heap.size w w' := by
  obtain ⟨s, rfl, hr, hb⟩ := h0
  obtain ⟨s', rfl, hr', hb'⟩ := h1
  have HR := Lib.hid hr
  have HR' := Lib.hid hr'
  clear hr hr' hb hb'
  simp only [rv]
  have X0 : Hid (RBox w r s w.heap.size ((w.alloc (.cells #[.int .i64 r.inst, .int .i64 r.proc, .int .i64 r.piece, .int .i64 r.fin, .slice s.a.A s.a.n s.a.c, .slice s.e.A s.e.n s.e.c, .slice s.l.A s.l.n s.l.c, .slice s.c.A s.c.n s.c.c] 37)).alloc (.cells #[.int .i64 r'.inst, .int .i64 r'.proc, .int .i64 r'.piece, .int .i64 r'.fin, .slice s'.a.A s'.a.n s'.a.c, .slice s'.e.A s'.e.n s'.e.c, .slice s'.l.A s'.l.n s'.l.c, .slice s'.c.A s'.c.n s'.c.c] 37))) := Lib.hid ⟨alloc_old' (alloc_at rfl), by repeat (first | exact Below.refl _ _ | refine Below.alloc ?_ (by simp <;> omega) _)⟩
  have Y0 : Hid (RBox w r' s' (w.heap.size + 1) ((w.alloc (.cells #[.int .i64 r.inst, .int .i64 r.proc, .int .i64 r.piece, .int .i64 r.fin, .slice s.a.A s.a.n s.a.c, .slice s.e.A s.e.n s.e.c, .slice s.l.A s.l.n s.l.c, .slice s.c.A s.c.n s.c.c] 37)).alloc (.cells #[.int .i64 r'.inst, .int .i64 r'.proc, .int .i64 r'.piece, .int .i64 r'.fin, .slice s'.a.A s'.a.n s'.a.c, .slice s'.e.A s'.e.n s'.e.c, .slice s'.l.A s'.l.n s'.l.c, .slice s'.c.A s'.c.n s'.c.c] 37))) := Lib.hid ⟨alloc_at (by simp), X0.out.2⟩
  go_enter Try.func4, Try.ntmps4
  go_wp2_with fail
  refine (lightRec_any r s _ (HR.out.next X0.out.2)).mono ?_; rintro e w1 ⟨rfl, b1⟩
  have X1 := Lib.hid (X0.out.next b1)
  have Y1 := Lib.hid (Y0.out.next b1)
  clear b1 X0 Y0
  obtain ⟨⟨⟨x0, x1⟩, x2, x3⟩, ⟨x4, x5⟩, x6, x7⟩ := X1.out.cells
  obtain ⟨⟨⟨y0, y1⟩, y2, y3⟩, ⟨y4, y5⟩, y6, y7⟩ := Y1.out.cells
  cases q1 : lightRec r
  · go_wp2_with fail
    refine (livesR_any _).mono ?_; rintro e wL ⟨rfl, bL⟩
    go_wp2_with fail
    go_ret
    exact ⟨rfl, (X1.out.next bL).2⟩
  have SH := Lib.hid (light_short q1)
  go_wp2_with fail
  refine (lightRec_any r' s' _ (HR'.out.next X1.out.2)).mono ?_; rintro e w2 ⟨rfl, b2⟩
  clear x0 x1 x2 x3 x4 x5 x6 x7 y0 y1 y2 y3 y4 y5 y6 y7
  have X2 := Lib.hid (X1.out.next b2)
  have Y2 := Lib.hid (Y1.out.next b2)
  clear b2 X1 Y1
  cases q2 : lightRec r'
  · go_wp2_with fail
    refine (livesR_any _).mono ?_; rintro e wL ⟨rfl, bL⟩
    go_wp2_with fail
    go_ret
    exact ⟨rfl, (X2.out.next bL).2⟩
  go_wp2_with fail
  refine wp_region_sched [(0, true), (2, true), (1, false), (3, false), (4, true), (5, true), (6, true), (7, true), (9, true), (10, true), (8, false), (11, false), (12, true), (13, true)] (by kernel_rfl) (by kernel_rfl) (fun _ _ d _ _ h => by cases d <;> exact h) ?_
  refine sbelow (w0 := w2) ((Below.refl _ _).drew) (fun B0 => ?_)
  refine swith (fun W hW => ((X2.out.next (bthen B0 hW.out)).cells)) (fun qx => ?_)
  refine swith (fun W hW => ((Y2.out.next (bthen B0 hW.out)).cells)) (fun qy => ?_)
  repeat (first | (refine sreadx rfl rfl ?_; apply Exists.intro; apply And.intro; (· (intro W hW; first | (go_simp; done) | (go_simp; with_reducible rfl) | (go_simp; rw [if_neg (by omega)]; done) | (go_simp; rw [if_neg (by omega)]; with_reducible rfl))); simp only [Act.put, List.setIfInBounds_toArray, List.set_cons_zero, List.set_cons_succ]) | (refine sskip rfl rfl ?_; simp only [Act.put, List.setIfInBounds_toArray, List.set_cons_zero, List.set_cons_succ]))
  refine scall rfl rfl (fun K hK => ?_)
  go_simp
  refine (rightRec_any r s _ (HR.out.next (bthen X2.out.2 B0)) SH.out).mono ?_; rintro e w3 ⟨rfl, b3⟩
  go_wp2_with fail
  refine hK.out _ _ (by exact b3) ?_
  clear hK K
  try simp only [Act.put, List.setIfInBounds_toArray, List.set_cons_zero, List.set_cons_succ]
  replace qx := fun (W : World) (hW : Grow w3 W) => qx W (Grow.trans (b3) hW)
  replace qy := fun (W : World) (hW : Grow w3 W) => qy W (Grow.trans (b3) hW)
  have B3 := bthen B0 b3
  repeat (first | (refine sreadx rfl rfl ?_; apply Exists.intro; apply And.intro; (· (intro W hW; first | (go_simp; done) | (go_simp; with_reducible rfl) | (go_simp; rw [if_neg (by omega)]; done) | (go_simp; rw [if_neg (by omega)]; with_reducible rfl))); simp only [Act.put, List.setIfInBounds_toArray, List.set_cons_zero, List.set_cons_succ]) | (refine sskip rfl rfl ?_; simp only [Act.put, List.setIfInBounds_toArray, List.set_cons_zero, List.set_cons_succ]))
  refine scall rfl rfl (fun K hK => ?_)
  go_simp
  refine (rrightRec_any r s _ (HR.out.next (bthen X2.out.2 B3)) SH.out).mono ?_; rintro e w4 ⟨rfl, b4⟩
  go_wp2_with fail
  refine hK.out _ _ (by exact b4) ?_
  clear hK K
  try simp only [Act.put, List.setIfInBounds_toArray, List.set_cons_zero, List.set_cons_succ]
  replace qx := fun (W : World) (hW : Grow w4 W) => qx W (Grow.trans (b4) hW)
  replace qy := fun (W : World) (hW : Grow w4 W) => qy W (Grow.trans (b4) hW)
  have B4 := bthen B3 b4
  repeat (first | (refine sreadx rfl rfl ?_; apply Exists.intro; apply And.intro; (· (intro W hW; first | (go_simp; done) | (go_simp; with_reducible rfl) | (go_simp; rw [if_neg (by omega)]; done) | (go_simp; rw [if_neg (by omega)]; with_reducible rfl))); simp only [Act.put, List.setIfInBounds_toArray, List.set_cons_zero, List.set_cons_succ]) | (refine sskip rfl rfl ?_; simp only [Act.put, List.setIfInBounds_toArray, List.set_cons_zero, List.set_cons_succ]))
  refine scall rfl rfl (fun K hK => ?_)
  go_simp
  refine (sameRec_any r r' s s' _ (HR.out.next (bthen X2.out.2 B4)) (HR'.out.next (bthen X2.out.2 B4))).mono ?_; rintro e w5 ⟨rfl, b5⟩
  go_wp2_with fail
  refine hK.out _ _ (by exact b5) ?_
  clear hK K
  try simp only [Act.put, List.setIfInBounds_toArray, List.set_cons_zero, List.set_cons_succ]
  replace qx := fun (W : World) (hW : Grow w5 W) => qx W (Grow.trans (b5) hW)
  replace qy := fun (W : World) (hW : Grow w5 W) => qy W (Grow.trans (b5) hW)
  have B5 := bthen B4 b5
  repeat (first | (refine sreadx rfl rfl ?_; apply Exists.intro; apply And.intro; (· (intro W hW; first | (go_simp; done) | (go_simp; with_reducible rfl) | (go_simp; rw [if_neg (by omega)]; done) | (go_simp; rw [if_neg (by omega)]; with_reducible rfl))); simp only [Act.put, List.setIfInBounds_toArray, List.set_cons_zero, List.set_cons_succ]) | (refine sskip rfl rfl ?_; simp only [Act.put, List.setIfInBounds_toArray, List.set_cons_zero, List.set_cons_succ]))
  refine scall rfl rfl (fun K hK => ?_)
  go_simp
  refine (rsameRec_any r r' s s' _ (HR.out.next (bthen X2.out.2 B5)) (HR'.out.next (bthen X2.out.2 B5))).mono ?_; rintro e w6 ⟨rfl, b6⟩
  go_wp2_with fail
  refine hK.out _ _ (by exact b6) ?_
  clear hK K
  try simp only [Act.put, List.setIfInBounds_toArray, List.set_cons_zero, List.set_cons_succ]
  have B6 := bthen B5 b6
  repeat (first | (refine sreadx rfl rfl ?_; apply Exists.intro; apply And.intro; (· (intro W hW; first | (go_simp; done) | (go_simp; with_reducible rfl) | (go_simp; rw [if_neg (by omega)]; done) | (go_simp; rw [if_neg (by omega)]; with_reducible rfl))); simp only [Act.put, List.setIfInBounds_toArray, List.set_cons_zero, List.set_cons_succ]) | (refine sskip rfl rfl ?_; simp only [Act.put, List.setIfInBounds_toArray, List.set_cons_zero, List.set_cons_succ]))
  refine sdone ?_
  have X6 := Lib.hid (X2.out.next B6)
  clear qx qy b3 b4 b5 b6 B0 B3 B4 B5 B6 X2 Y2
  go_wp2_with fail
  refine wp_region_sched [(0, true), (1, false), (2, true), (3, true), (4, true), (7, true), (5, false), (6, true), (8, false), (9, true), (10, true), (11, true), (12, true), (13, false), (14, true), (15, true)] (by kernel_rfl) (by kernel_rfl) (fun _ _ d _ _ h => by cases d <;> exact h) ?_
  refine sbelow (w0 := w6) ((Below.refl _ _).drew) (fun B0 => ?_)
  refine swith (fun W hW => ((X6.out.next (bthen B0 hW.out)).cells)) (fun qx => ?_)
  repeat (first | (refine sreadx rfl rfl ?_; apply Exists.intro; apply And.intro; (· (intro W hW; first | (go_simp; done) | (go_simp; with_reducible rfl) | (go_simp; rw [if_neg (by omega)]; done) | (go_simp; rw [if_neg (by omega)]; with_reducible rfl))); simp only [Act.put, List.setIfInBounds_toArray, List.set_cons_zero, List.set_cons_succ]) | (refine sskip rfl rfl ?_; simp only [Act.put, List.setIfInBounds_toArray, List.set_cons_zero, List.set_cons_succ]))
  refine scall rfl rfl (fun K hK => ?_)
  go_simp
  refine (rrightRec_any r s _ (HR.out.next (bthen X6.out.2 B0)) SH.out).mono ?_; rintro e w7 ⟨rfl, b7⟩
  go_wp2_with fail
  refine hK.out _ _ (by exact b7) ?_
  clear hK K
  try simp only [Act.put, List.setIfInBounds_toArray, List.set_cons_zero, List.set_cons_succ]
  replace qx := fun (W : World) (hW : Grow w7 W) => qx W (Grow.trans (b7) hW)
  have B7 := bthen B0 b7
  cases q3 : rightRec r
  · repeat (first | (refine sreadx rfl rfl ?_; apply Exists.intro; apply And.intro; (· (intro W hW; first | (go_simp; done) | (go_simp; with_reducible rfl) | (go_simp; rw [if_neg (by omega)]; done) | (go_simp; rw [if_neg (by omega)]; with_reducible rfl))); simp only [Act.put, List.setIfInBounds_toArray, List.set_cons_zero, List.set_cons_succ]) | (refine sskip rfl rfl ?_; simp only [Act.put, List.setIfInBounds_toArray, List.set_cons_zero, List.set_cons_succ]))
    refine scall rfl rfl (fun K hK => ?_)
    go_simp
    refine (livesR_any _).mono ?_; rintro e w8 ⟨rfl, b8⟩
    go_wp2_with fail
    refine hK.out _ _ (by exact b8) ?_
    clear hK K
    try simp only [Act.put, List.setIfInBounds_toArray, List.set_cons_zero, List.set_cons_succ]
    repeat (first | (refine sreadx rfl rfl ?_; apply Exists.intro; apply And.intro; (· (intro W hW; first | (go_simp; done) | (go_simp; with_reducible rfl) | (go_simp; rw [if_neg (by omega)]; done) | (go_simp; rw [if_neg (by omega)]; with_reducible rfl))); simp only [Act.put, List.setIfInBounds_toArray, List.set_cons_zero, List.set_cons_succ]) | (refine sskip rfl rfl ?_; simp only [Act.put, List.setIfInBounds_toArray, List.set_cons_zero, List.set_cons_succ]))
    refine sdone ?_
    go_wp2_with fail
    go_ret
    exact ⟨rfl, (X6.out.next (bthen B7 b8)).2⟩
  · have OK := Lib.hid (rok HR.out q1 q3)
    repeat (first | (refine sreadx rfl rfl ?_; apply Exists.intro; apply And.intro; (· (intro W hW; first | (go_simp; done) | (go_simp; with_reducible rfl) | (go_simp; rw [if_neg (by omega)]; done) | (go_simp; rw [if_neg (by omega)]; with_reducible rfl))); simp only [Act.put, List.setIfInBounds_toArray, List.set_cons_zero, List.set_cons_succ]) | (refine sskip rfl rfl ?_; simp only [Act.put, List.setIfInBounds_toArray, List.set_cons_zero, List.set_cons_succ]))
    refine scall rfl rfl (fun K hK => ?_)
    go_simp
    refine (putRec_any r s _ (HR.out.next (bthen X6.out.2 B7)) OK.out).mono ?_; rintro e w8 ⟨A8, n8, c8, rfl, o8, b8⟩
    go_wp2_with fail
    refine hK.out _ _ (by exact b8) ?_
    clear hK K
    try simp only [Act.put, List.setIfInBounds_toArray, List.set_cons_zero, List.set_cons_succ]
    replace qx := fun (W : World) (hW : Grow w8 W) => qx W (Grow.trans (b8) hW)
    refine swith (fun W hW => (strq (c := c8) ((Rd.of_own o8).next hW.out))) (fun qs => ?_)
    have B8 := bthen B7 b8
    repeat (first | (refine sreadx rfl rfl ?_; apply Exists.intro; apply And.intro; (· (intro W hW; first | (go_simp; done) | (go_simp; with_reducible rfl) | (go_simp; rw [if_neg (by omega)]; done) | (go_simp; rw [if_neg (by omega)]; with_reducible rfl))); simp only [Act.put, List.setIfInBounds_toArray, List.set_cons_zero, List.set_cons_succ]) | (refine sskip rfl rfl ?_; simp only [Act.put, List.setIfInBounds_toArray, List.set_cons_zero, List.set_cons_succ]))
    refine scall rfl rfl (fun K hK => ?_)
    go_simp
    refine (rputRec_any r s _ (HR.out.next (bthen X6.out.2 B8)) OK.out).mono ?_; rintro e w9 ⟨A9, n9, c9, rfl, o9, b9⟩
    go_wp2_with fail
    refine hK.out _ _ (by exact b9) ?_
    clear hK K
    try simp only [Act.put, List.setIfInBounds_toArray, List.set_cons_zero, List.set_cons_succ]
    refine swith (fun W hW => (strq (c := c9) ((Rd.of_own o9).next hW.out))) (fun qt => ?_)
    have B9 := bthen B8 b9
    repeat (first | (refine sreadx rfl rfl ?_; apply Exists.intro; apply And.intro; (· (intro W hW; first | (go_simp; done) | (go_simp; with_reducible rfl) | (go_simp; rw [if_neg (by omega)]; done) | (go_simp; rw [if_neg (by omega)]; with_reducible rfl))); simp only [Act.put, List.setIfInBounds_toArray, List.set_cons_zero, List.set_cons_succ]) | (refine sskip rfl rfl ?_; simp only [Act.put, List.setIfInBounds_toArray, List.set_cons_zero, List.set_cons_succ]))
    refine scall rfl rfl (fun K hK => ?_)
    go_simp
    refine (livesR_any _).mono ?_; rintro e w10 ⟨rfl, b10⟩
    go_wp2_with fail
    refine hK.out _ _ (by exact b10) ?_
    clear hK K
    try simp only [Act.put, List.setIfInBounds_toArray, List.set_cons_zero, List.set_cons_succ]
    repeat (first | (refine sreadx rfl rfl ?_; apply Exists.intro; apply And.intro; (· (intro W hW; first | (go_simp; done) | (go_simp; with_reducible rfl) | (go_simp; rw [if_neg (by omega)]; done) | (go_simp; rw [if_neg (by omega)]; with_reducible rfl))); simp only [Act.put, List.setIfInBounds_toArray, List.set_cons_zero, List.set_cons_succ]) | (refine sskip rfl rfl ?_; simp only [Act.put, List.setIfInBounds_toArray, List.set_cons_zero, List.set_cons_succ]))
    refine sdone ?_
    go_wp2_with fail
    go_ret
    exact ⟨rfl, (X6.out.next (bthen B9 b10)).2⟩
end Go.Proofs.Ytpkoijlbbfffiaa.recordPuts
